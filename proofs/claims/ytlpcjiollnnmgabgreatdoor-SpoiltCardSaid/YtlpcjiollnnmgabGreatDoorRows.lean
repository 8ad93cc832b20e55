/-
  NARROWER THAN 'FOR EVERY INPUT', by the rows' own cells (each row's printed sentence says how): Adds: laid · Drops: laid · IDs: laid · Compacts: laid · Replies: laid · Owned: laid · All: laid · Spoilt: laid.
  DERIVED. THE GIVEN ROWS OF THIS SEAT. 8 by the template 'for every input the law returns true; each argument reads behind the call as it read before'; 0 by the template 'total and deterministic' (their statements: YtlpcjiollnnmgabGreatDoorTotals.lean).
  GIVEN WITH THE SEED: the statements are not yours to turn. If you find one false, say at which input.
  Laid BY PROGRAM, IN A SANDBOX (cutbox-rows.mjs): the forced cells as the released guide's own fill.sh prints them over the translation c2fe28c8080b30a9… (all of the seat's roots in one cut). By AI agents, Wed Nov 11 2026. No macro, syntax, notation, axiom, sorry.
-/
import Derived.Test.YtlpcjiollnnmgabGreatDoorChecked
import GoSem.Claim
import GoSem.ClaimJoined
import GoSem.ClaimMapViews
import Derived.JoinedTies
import Derived.KernelRfl
namespace Go.Proofs.YtlpcjiollnnmgabGreatDoor
/- THE CELL 'sum', in the pinned program and in every row, IS THE sha256 OF THE DUMP (.gsa) THAT YtlpcjiollnnmgabGreatDoorProg.lean LOADS. Nothing in Lean hashes anything: it is a label: what it is worth is what the hold of that sum in a sandbox is worth. -/
noncomputable def Tryz.pinned : Pinned := { name := "ytlpcjiollnnmgabgreatdoor", sum := "c2fe28c8080b30a95dcb6e5e40906753302a05d37dff22574d88b9f758d48244", checked := Tryz.checked }
namespace Rows
def none {H : Type} : Left H := { results := [], args := [] }

/- WHAT THE LISTED PACKAGE-LEVEL VARIABLES READ AS WHEN THE CALL BEGINS. Each datum BY PROGRAM (the guide's laid-datum.mjs) off the statement by which the dump's own 'gosem.cut.vars' lays the variable. In a bare row this is a premise. The card (YtlpcjiollnnmgabGreatDoorCards.lean) ties it to the program's text. -/
def laid_compact_hash_begin {H : Type} : DataW H := .agg [.lit (.int .u32 1779033703), .lit (.int .u32 3144134277), .lit (.int .u32 1013904242), .lit (.int .u32 2773480762), .lit (.int .u32 1359893119), .lit (.int .u32 2600822924), .lit (.int .u32 528734635), .lit (.int .u32 1541459225)]
def laid_compact_hash_rounds {H : Type} : DataW H := .agg [.lit (.int .u32 1116352408), .lit (.int .u32 1899447441), .lit (.int .u32 3049323471), .lit (.int .u32 3921009573), .lit (.int .u32 961987163), .lit (.int .u32 1508970993), .lit (.int .u32 2453635748), .lit (.int .u32 2870763221), .lit (.int .u32 3624381080), .lit (.int .u32 310598401), .lit (.int .u32 607225278), .lit (.int .u32 1426881987), .lit (.int .u32 1925078388), .lit (.int .u32 2162078206), .lit (.int .u32 2614888103), .lit (.int .u32 3248222580), .lit (.int .u32 3835390401), .lit (.int .u32 4022224774), .lit (.int .u32 264347078), .lit (.int .u32 604807628), .lit (.int .u32 770255983), .lit (.int .u32 1249150122), .lit (.int .u32 1555081692), .lit (.int .u32 1996064986), .lit (.int .u32 2554220882), .lit (.int .u32 2821834349), .lit (.int .u32 2952996808), .lit (.int .u32 3210313671), .lit (.int .u32 3336571891), .lit (.int .u32 3584528711), .lit (.int .u32 113926993), .lit (.int .u32 338241895), .lit (.int .u32 666307205), .lit (.int .u32 773529912), .lit (.int .u32 1294757372), .lit (.int .u32 1396182291), .lit (.int .u32 1695183700), .lit (.int .u32 1986661051), .lit (.int .u32 2177026350), .lit (.int .u32 2456956037), .lit (.int .u32 2730485921), .lit (.int .u32 2820302411), .lit (.int .u32 3259730800), .lit (.int .u32 3345764771), .lit (.int .u32 3516065817), .lit (.int .u32 3600352804), .lit (.int .u32 4094571909), .lit (.int .u32 275423344), .lit (.int .u32 430227734), .lit (.int .u32 506948616), .lit (.int .u32 659060556), .lit (.int .u32 883997877), .lit (.int .u32 958139571), .lit (.int .u32 1322822218), .lit (.int .u32 1537002063), .lit (.int .u32 1747873779), .lit (.int .u32 1955562222), .lit (.int .u32 2024104815), .lit (.int .u32 2227730452), .lit (.int .u32 2361852424), .lit (.int .u32 2428436474), .lit (.int .u32 2756734187), .lit (.int .u32 3204031479), .lit (.int .u32 3329325298)]

/-- 'compactlaw.Adds': WHATEVER THE INPUT: true; the input reads as it did. -/
def addsSpec : ChangeSpec := { name := "adds", fn := fun _ => fun
  | [d] => { results := [.lit (.bool true)], args := [d] }
  | _ => none }
def addsRow : OpenClaim := { program := "ytlpcjiollnnmgabgreatdoor", sum := "c2fe28c8080b30a95dcb6e5e40906753302a05d37dff22574d88b9f758d48244", func := "compact/compactlaw.Adds", spec := "adds", unfollowed := true, recurses := true, named := ["compact/hash.begin", "compact/hash.rounds"], plainKeys := false, leaving := true, apart := false, laid := [("compact/hash.begin", laid_compact_hash_begin), ("compact/hash.rounds", laid_compact_hash_rounds)] }
def AddsSaid : Prop := addsRow.holds Tryz.pinned (OpenSpec.ofChange addsSpec)

/-- ITS FALSE NEIGHBOUR: 'it returns false'. Refute it at one input. -/
def addsWrong : ChangeSpec := { name := "adds", fn := fun _ => fun
  | [d] => { results := [.lit (.bool false)], args := [d] }
  | _ => none }
def AddsWrongFalsely : Prop := addsRow.holds Tryz.pinned (OpenSpec.ofChange addsWrong)

/-- 'compactlaw.Drops': WHATEVER THE INPUT: true; the input reads as it did. -/
def dropsSpec : ChangeSpec := { name := "drops", fn := fun _ => fun
  | [d] => { results := [.lit (.bool true)], args := [d] }
  | _ => none }
def dropsRow : OpenClaim := { program := "ytlpcjiollnnmgabgreatdoor", sum := "c2fe28c8080b30a95dcb6e5e40906753302a05d37dff22574d88b9f758d48244", func := "compact/compactlaw.Drops", spec := "drops", unfollowed := true, recurses := true, named := ["compact/hash.begin", "compact/hash.rounds"], plainKeys := false, leaving := true, apart := false, laid := [("compact/hash.begin", laid_compact_hash_begin), ("compact/hash.rounds", laid_compact_hash_rounds)] }
def DropsSaid : Prop := dropsRow.holds Tryz.pinned (OpenSpec.ofChange dropsSpec)

/-- ITS FALSE NEIGHBOUR: 'it returns false'. Refute it at one input. -/
def dropsWrong : ChangeSpec := { name := "drops", fn := fun _ => fun
  | [d] => { results := [.lit (.bool false)], args := [d] }
  | _ => none }
def DropsWrongFalsely : Prop := dropsRow.holds Tryz.pinned (OpenSpec.ofChange dropsWrong)

/-- 'compactlaw.IDs': WHATEVER THE INPUT: true; the input reads as it did. -/
def iDsSpec : ChangeSpec := { name := "iDs", fn := fun _ => fun
  | [d] => { results := [.lit (.bool true)], args := [d] }
  | _ => none }
def iDsRow : OpenClaim := { program := "ytlpcjiollnnmgabgreatdoor", sum := "c2fe28c8080b30a95dcb6e5e40906753302a05d37dff22574d88b9f758d48244", func := "compact/compactlaw.IDs", spec := "iDs", unfollowed := true, recurses := true, named := ["compact/hash.begin", "compact/hash.rounds"], plainKeys := false, leaving := true, apart := false, laid := [("compact/hash.begin", laid_compact_hash_begin), ("compact/hash.rounds", laid_compact_hash_rounds)] }
def IDsSaid : Prop := iDsRow.holds Tryz.pinned (OpenSpec.ofChange iDsSpec)

/-- ITS FALSE NEIGHBOUR: 'it returns false'. Refute it at one input. -/
def iDsWrong : ChangeSpec := { name := "iDs", fn := fun _ => fun
  | [d] => { results := [.lit (.bool false)], args := [d] }
  | _ => none }
def IDsWrongFalsely : Prop := iDsRow.holds Tryz.pinned (OpenSpec.ofChange iDsWrong)

/-- 'compactlaw.Compacts': WHATEVER THE INPUT: true; the input reads as it did. -/
def compactsSpec : ChangeSpec := { name := "compacts", fn := fun _ => fun
  | [d] => { results := [.lit (.bool true)], args := [d] }
  | _ => none }
def compactsRow : OpenClaim := { program := "ytlpcjiollnnmgabgreatdoor", sum := "c2fe28c8080b30a95dcb6e5e40906753302a05d37dff22574d88b9f758d48244", func := "compact/compactlaw.Compacts", spec := "compacts", unfollowed := true, recurses := true, named := ["compact/hash.begin", "compact/hash.rounds"], plainKeys := false, leaving := true, apart := false, laid := [("compact/hash.begin", laid_compact_hash_begin), ("compact/hash.rounds", laid_compact_hash_rounds)] }
def CompactsSaid : Prop := compactsRow.holds Tryz.pinned (OpenSpec.ofChange compactsSpec)

/-- ITS FALSE NEIGHBOUR: 'it returns false'. Refute it at one input. -/
def compactsWrong : ChangeSpec := { name := "compacts", fn := fun _ => fun
  | [d] => { results := [.lit (.bool false)], args := [d] }
  | _ => none }
def CompactsWrongFalsely : Prop := compactsRow.holds Tryz.pinned (OpenSpec.ofChange compactsWrong)

/-- 'compactlaw.Replies': WHATEVER THE INPUT: true; the input reads as it did. -/
def repliesSpec : ChangeSpec := { name := "replies", fn := fun _ => fun
  | [d] => { results := [.lit (.bool true)], args := [d] }
  | _ => none }
def repliesRow : OpenClaim := { program := "ytlpcjiollnnmgabgreatdoor", sum := "c2fe28c8080b30a95dcb6e5e40906753302a05d37dff22574d88b9f758d48244", func := "compact/compactlaw.Replies", spec := "replies", unfollowed := true, recurses := true, named := ["compact/hash.begin", "compact/hash.rounds"], plainKeys := false, leaving := true, apart := false, laid := [("compact/hash.begin", laid_compact_hash_begin), ("compact/hash.rounds", laid_compact_hash_rounds)] }
def RepliesSaid : Prop := repliesRow.holds Tryz.pinned (OpenSpec.ofChange repliesSpec)

/-- ITS FALSE NEIGHBOUR: 'it returns false'. Refute it at one input. -/
def repliesWrong : ChangeSpec := { name := "replies", fn := fun _ => fun
  | [d] => { results := [.lit (.bool false)], args := [d] }
  | _ => none }
def RepliesWrongFalsely : Prop := repliesRow.holds Tryz.pinned (OpenSpec.ofChange repliesWrong)

/-- 'compactlaw.Owned': WHATEVER THE INPUT: true; the input reads as it did. -/
def ownedSpec : ChangeSpec := { name := "owned", fn := fun _ => fun
  | [d] => { results := [.lit (.bool true)], args := [d] }
  | _ => none }
def ownedRow : OpenClaim := { program := "ytlpcjiollnnmgabgreatdoor", sum := "c2fe28c8080b30a95dcb6e5e40906753302a05d37dff22574d88b9f758d48244", func := "compact/compactlaw.Owned", spec := "owned", unfollowed := true, recurses := true, named := ["compact/hash.begin", "compact/hash.rounds"], plainKeys := false, leaving := true, apart := false, laid := [("compact/hash.begin", laid_compact_hash_begin), ("compact/hash.rounds", laid_compact_hash_rounds)] }
def OwnedSaid : Prop := ownedRow.holds Tryz.pinned (OpenSpec.ofChange ownedSpec)

/-- ITS FALSE NEIGHBOUR: 'it returns false'. Refute it at one input. -/
def ownedWrong : ChangeSpec := { name := "owned", fn := fun _ => fun
  | [d] => { results := [.lit (.bool false)], args := [d] }
  | _ => none }
def OwnedWrongFalsely : Prop := ownedRow.holds Tryz.pinned (OpenSpec.ofChange ownedWrong)

/-- 'compactlaw.All': WHATEVER THE INPUT: true; the input reads as it did. -/
def allSpec : ChangeSpec := { name := "all", fn := fun _ => fun
  | [d] => { results := [.lit (.bool true)], args := [d] }
  | _ => none }
def allRow : OpenClaim := { program := "ytlpcjiollnnmgabgreatdoor", sum := "c2fe28c8080b30a95dcb6e5e40906753302a05d37dff22574d88b9f758d48244", func := "compact/compactlaw.All", spec := "all", unfollowed := true, recurses := true, named := ["compact/hash.begin", "compact/hash.rounds"], plainKeys := false, leaving := true, apart := false, laid := [("compact/hash.begin", laid_compact_hash_begin), ("compact/hash.rounds", laid_compact_hash_rounds)] }
def AllSaid : Prop := allRow.holds Tryz.pinned (OpenSpec.ofChange allSpec)

/-- ITS FALSE NEIGHBOUR: 'it returns false'. Refute it at one input. -/
def allWrong : ChangeSpec := { name := "all", fn := fun _ => fun
  | [d] => { results := [.lit (.bool false)], args := [d] }
  | _ => none }
def AllWrongFalsely : Prop := allRow.holds Tryz.pinned (OpenSpec.ofChange allWrong)

/-- 'compactkeep.Spoilt': WHATEVER THE INPUT: true; the input reads as it did. -/
def spoiltSpec : ChangeSpec := { name := "spoilt", fn := fun _ => fun
  | [d1, d2, d3] => { results := [.lit (.bool true)], args := [d1, d2, d3] }
  | _ => none }
def spoiltRow : OpenClaim := { program := "ytlpcjiollnnmgabgreatdoor", sum := "c2fe28c8080b30a95dcb6e5e40906753302a05d37dff22574d88b9f758d48244", func := "compact/compactkeep.Spoilt", spec := "spoilt", unfollowed := true, recurses := true, named := ["compact/hash.begin", "compact/hash.rounds"], plainKeys := false, leaving := true, apart := false, laid := [("compact/hash.begin", laid_compact_hash_begin), ("compact/hash.rounds", laid_compact_hash_rounds)] }
def SpoiltSaid : Prop := spoiltRow.holds Tryz.pinned (OpenSpec.ofChange spoiltSpec)

/-- ITS FALSE NEIGHBOUR: 'it returns false'. Refute it at one input. -/
def spoiltWrong : ChangeSpec := { name := "spoilt", fn := fun _ => fun
  | [d1, d2, d3] => { results := [.lit (.bool false)], args := [d1, d2, d3] }
  | _ => none }
def SpoiltWrongFalsely : Prop := spoiltRow.holds Tryz.pinned (OpenSpec.ofChange spoiltWrong)

/- THE SECOND FORM. 'bulk': how many values and letters a reading holds, each counted each time it is reached (what is shared counts as often as it is met; a slice's spare places count too). A statement '..UptoSaid' is the law's where the arguments, and the package variables that the reading takes, are together of bulk at most 1048576: NARROWER than '..Said'. Prove '..Said' where nothing that the law and all that it calls make is longer than what came in: it says more and counts as full. Else prove '..UptoSaid'. A law counts once. -/
mutual
def uptoBulk {H : Type} : DataW H → Nat
  | .lit (.string bytes) => bytes.length + 1
  | .lit _ => 1
  | .nil => 1
  | .ptr d => uptoBulk d + 1
  | .slice elems spare => uptoBulkAll elems + uptoBulkAll spare + 1
  | .agg parts => uptoBulkAll parts + 1
  | .iface _ d => uptoBulk d + 1
  | .map entries => uptoBulkEntries entries + 1
  | .held _ => 1
def uptoBulkAll {H : Type} : List (DataW H) → Nat
  | [] => 0
  | d :: r => uptoBulk d + uptoBulkAll r
def uptoBulkEntries {H : Type} : List (Lit × DataW H) → Nat
  | [] => 0
  | x :: r => uptoBulkEntry x + uptoBulkEntries r
def uptoBulkEntry {H : Type} : Lit × DataW H → Nat
  | (.string bytes, d) => bytes.length + uptoBulk d + 1
  | (_, d) => uptoBulk d + 1
 end
def uptoSmall : (H : Type) → List (DataW H) → Bool := fun _ ds => decide (uptoBulkAll ds ≤ 1048576)
def OpenSpec.upto (s : _root_.Go.ChangeSpec) : _root_.Go.OpenSpec := { _root_.Go.OpenSpec.ofChange s with cond := some uptoSmall }

/-- 'compactlaw.Adds', WHERE WHAT IT READS IS OF BULK AT MOST 1048576: true; the input reads as it did. -/
def addsUptoRow : OpenClaim := { program := "ytlpcjiollnnmgabgreatdoor", sum := "c2fe28c8080b30a95dcb6e5e40906753302a05d37dff22574d88b9f758d48244", func := "compact/compactlaw.Adds", spec := "adds", unfollowed := true, recurses := true, named := ["compact/hash.begin", "compact/hash.rounds"], plainKeys := false, leaving := true, apart := false, laid := [("compact/hash.begin", laid_compact_hash_begin), ("compact/hash.rounds", laid_compact_hash_rounds)], narrowed := true }
def AddsUptoSaid : Prop := addsUptoRow.holds Tryz.pinned (OpenSpec.upto addsSpec)

/-- 'compactlaw.Drops', WHERE WHAT IT READS IS OF BULK AT MOST 1048576: true; the input reads as it did. -/
def dropsUptoRow : OpenClaim := { program := "ytlpcjiollnnmgabgreatdoor", sum := "c2fe28c8080b30a95dcb6e5e40906753302a05d37dff22574d88b9f758d48244", func := "compact/compactlaw.Drops", spec := "drops", unfollowed := true, recurses := true, named := ["compact/hash.begin", "compact/hash.rounds"], plainKeys := false, leaving := true, apart := false, laid := [("compact/hash.begin", laid_compact_hash_begin), ("compact/hash.rounds", laid_compact_hash_rounds)], narrowed := true }
def DropsUptoSaid : Prop := dropsUptoRow.holds Tryz.pinned (OpenSpec.upto dropsSpec)

/-- 'compactlaw.IDs', WHERE WHAT IT READS IS OF BULK AT MOST 1048576: true; the input reads as it did. -/
def iDsUptoRow : OpenClaim := { program := "ytlpcjiollnnmgabgreatdoor", sum := "c2fe28c8080b30a95dcb6e5e40906753302a05d37dff22574d88b9f758d48244", func := "compact/compactlaw.IDs", spec := "iDs", unfollowed := true, recurses := true, named := ["compact/hash.begin", "compact/hash.rounds"], plainKeys := false, leaving := true, apart := false, laid := [("compact/hash.begin", laid_compact_hash_begin), ("compact/hash.rounds", laid_compact_hash_rounds)], narrowed := true }
def IDsUptoSaid : Prop := iDsUptoRow.holds Tryz.pinned (OpenSpec.upto iDsSpec)

/-- 'compactlaw.Compacts', WHERE WHAT IT READS IS OF BULK AT MOST 1048576: true; the input reads as it did. -/
def compactsUptoRow : OpenClaim := { program := "ytlpcjiollnnmgabgreatdoor", sum := "c2fe28c8080b30a95dcb6e5e40906753302a05d37dff22574d88b9f758d48244", func := "compact/compactlaw.Compacts", spec := "compacts", unfollowed := true, recurses := true, named := ["compact/hash.begin", "compact/hash.rounds"], plainKeys := false, leaving := true, apart := false, laid := [("compact/hash.begin", laid_compact_hash_begin), ("compact/hash.rounds", laid_compact_hash_rounds)], narrowed := true }
def CompactsUptoSaid : Prop := compactsUptoRow.holds Tryz.pinned (OpenSpec.upto compactsSpec)

/-- 'compactlaw.Replies', WHERE WHAT IT READS IS OF BULK AT MOST 1048576: true; the input reads as it did. -/
def repliesUptoRow : OpenClaim := { program := "ytlpcjiollnnmgabgreatdoor", sum := "c2fe28c8080b30a95dcb6e5e40906753302a05d37dff22574d88b9f758d48244", func := "compact/compactlaw.Replies", spec := "replies", unfollowed := true, recurses := true, named := ["compact/hash.begin", "compact/hash.rounds"], plainKeys := false, leaving := true, apart := false, laid := [("compact/hash.begin", laid_compact_hash_begin), ("compact/hash.rounds", laid_compact_hash_rounds)], narrowed := true }
def RepliesUptoSaid : Prop := repliesUptoRow.holds Tryz.pinned (OpenSpec.upto repliesSpec)

/-- 'compactlaw.Owned', WHERE WHAT IT READS IS OF BULK AT MOST 1048576: true; the input reads as it did. -/
def ownedUptoRow : OpenClaim := { program := "ytlpcjiollnnmgabgreatdoor", sum := "c2fe28c8080b30a95dcb6e5e40906753302a05d37dff22574d88b9f758d48244", func := "compact/compactlaw.Owned", spec := "owned", unfollowed := true, recurses := true, named := ["compact/hash.begin", "compact/hash.rounds"], plainKeys := false, leaving := true, apart := false, laid := [("compact/hash.begin", laid_compact_hash_begin), ("compact/hash.rounds", laid_compact_hash_rounds)], narrowed := true }
def OwnedUptoSaid : Prop := ownedUptoRow.holds Tryz.pinned (OpenSpec.upto ownedSpec)

/-- 'compactlaw.All', WHERE WHAT IT READS IS OF BULK AT MOST 1048576: true; the input reads as it did. -/
def allUptoRow : OpenClaim := { program := "ytlpcjiollnnmgabgreatdoor", sum := "c2fe28c8080b30a95dcb6e5e40906753302a05d37dff22574d88b9f758d48244", func := "compact/compactlaw.All", spec := "all", unfollowed := true, recurses := true, named := ["compact/hash.begin", "compact/hash.rounds"], plainKeys := false, leaving := true, apart := false, laid := [("compact/hash.begin", laid_compact_hash_begin), ("compact/hash.rounds", laid_compact_hash_rounds)], narrowed := true }
def AllUptoSaid : Prop := allUptoRow.holds Tryz.pinned (OpenSpec.upto allSpec)

/-- 'compactkeep.Spoilt', WHERE WHAT IT READS IS OF BULK AT MOST 1048576: true; the input reads as it did. -/
def spoiltUptoRow : OpenClaim := { program := "ytlpcjiollnnmgabgreatdoor", sum := "c2fe28c8080b30a95dcb6e5e40906753302a05d37dff22574d88b9f758d48244", func := "compact/compactkeep.Spoilt", spec := "spoilt", unfollowed := true, recurses := true, named := ["compact/hash.begin", "compact/hash.rounds"], plainKeys := false, leaving := true, apart := false, laid := [("compact/hash.begin", laid_compact_hash_begin), ("compact/hash.rounds", laid_compact_hash_rounds)], narrowed := true }
def SpoiltUptoSaid : Prop := spoiltUptoRow.holds Tryz.pinned (OpenSpec.upto spoiltSpec)

end Rows
end Go.Proofs.YtlpcjiollnnmgabGreatDoor
