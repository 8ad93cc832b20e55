/-
  NARROWER THAN 'FOR EVERY INPUT', by the rows' own cells (each row's printed sentence says how): Sums: laid · Roots: laid · Extended: laid · Vectors: laid · Txids: laid · Serves: laid · Encodes: laid · Known: laid.
  DERIVED. THE GIVEN ROWS OF THIS SEAT. 8 by the template 'for every input the law returns true; each argument reads behind the call as it read before'; 0 by the template 'total and deterministic' (their statements: YtlpcjiollnnmgaaDoorTotals.lean).
  GIVEN WITH THE SEED: the statements are not yours to turn. If you find one false, say at which input.
  Laid BY PROGRAM, IN A SANDBOX (cutbox-rows.mjs): the forced cells as the released guide's own fill.sh prints them over the translation 1aa95e3e96924be8… (all of the seat's roots in one cut). By AI agents, Wed Nov 11 2026. No macro, syntax, notation, axiom, sorry.
-/
import Derived.Test.YtlpcjiollnnmgaaDoorChecked
import GoSem.Claim
import GoSem.ClaimJoined
import GoSem.ClaimMapViews
import Derived.JoinedTies
import Derived.KernelRfl
namespace Go.Proofs.YtlpcjiollnnmgaaDoor
/- THE CELL 'sum', in the pinned program and in every row, IS THE sha256 OF THE DUMP (.gsa) THAT YtlpcjiollnnmgaaDoorProg.lean LOADS. Nothing in Lean hashes anything: it is a label: what it is worth is what the hold of that sum in a sandbox is worth. -/
noncomputable def Tryd.pinned : Pinned := { name := "ytlpcjiollnnmgaadoor", sum := "1aa95e3e96924be8b237bd86211677d6c562215eaf63951eea49c292195148e1", checked := Tryd.checked }
namespace Rows
def none {H : Type} : Left H := { results := [], args := [] }

/- WHAT THE LISTED PACKAGE-LEVEL VARIABLES READ AS WHEN THE CALL BEGINS. Each datum BY PROGRAM (the guide's laid-datum.mjs) off the statement by which the dump's own 'gosem.cut.vars' lays the variable. In a bare row this is a premise. The card (YtlpcjiollnnmgaaDoorCards.lean) ties it to the program's text. -/
def laid_compact_hash_begin {H : Type} : DataW H := .agg [.lit (.int .u32 1779033703), .lit (.int .u32 3144134277), .lit (.int .u32 1013904242), .lit (.int .u32 2773480762), .lit (.int .u32 1359893119), .lit (.int .u32 2600822924), .lit (.int .u32 528734635), .lit (.int .u32 1541459225)]
def laid_compact_hash_rounds {H : Type} : DataW H := .agg [.lit (.int .u32 1116352408), .lit (.int .u32 1899447441), .lit (.int .u32 3049323471), .lit (.int .u32 3921009573), .lit (.int .u32 961987163), .lit (.int .u32 1508970993), .lit (.int .u32 2453635748), .lit (.int .u32 2870763221), .lit (.int .u32 3624381080), .lit (.int .u32 310598401), .lit (.int .u32 607225278), .lit (.int .u32 1426881987), .lit (.int .u32 1925078388), .lit (.int .u32 2162078206), .lit (.int .u32 2614888103), .lit (.int .u32 3248222580), .lit (.int .u32 3835390401), .lit (.int .u32 4022224774), .lit (.int .u32 264347078), .lit (.int .u32 604807628), .lit (.int .u32 770255983), .lit (.int .u32 1249150122), .lit (.int .u32 1555081692), .lit (.int .u32 1996064986), .lit (.int .u32 2554220882), .lit (.int .u32 2821834349), .lit (.int .u32 2952996808), .lit (.int .u32 3210313671), .lit (.int .u32 3336571891), .lit (.int .u32 3584528711), .lit (.int .u32 113926993), .lit (.int .u32 338241895), .lit (.int .u32 666307205), .lit (.int .u32 773529912), .lit (.int .u32 1294757372), .lit (.int .u32 1396182291), .lit (.int .u32 1695183700), .lit (.int .u32 1986661051), .lit (.int .u32 2177026350), .lit (.int .u32 2456956037), .lit (.int .u32 2730485921), .lit (.int .u32 2820302411), .lit (.int .u32 3259730800), .lit (.int .u32 3345764771), .lit (.int .u32 3516065817), .lit (.int .u32 3600352804), .lit (.int .u32 4094571909), .lit (.int .u32 275423344), .lit (.int .u32 430227734), .lit (.int .u32 506948616), .lit (.int .u32 659060556), .lit (.int .u32 883997877), .lit (.int .u32 958139571), .lit (.int .u32 1322822218), .lit (.int .u32 1537002063), .lit (.int .u32 1747873779), .lit (.int .u32 1955562222), .lit (.int .u32 2024104815), .lit (.int .u32 2227730452), .lit (.int .u32 2361852424), .lit (.int .u32 2428436474), .lit (.int .u32 2756734187), .lit (.int .u32 3204031479), .lit (.int .u32 3329325298)]

/-- 'compactlaw.Sums': WHATEVER THE INPUT: true; the input reads as it did. -/
def sumsSpec : ChangeSpec := { name := "sums", fn := fun _ => fun
  | [d] => { results := [.lit (.bool true)], args := [d] }
  | _ => none }
def sumsRow : OpenClaim := { program := "ytlpcjiollnnmgaadoor", sum := "1aa95e3e96924be8b237bd86211677d6c562215eaf63951eea49c292195148e1", func := "compact/compactlaw.Sums", spec := "sums", named := ["compact/hash.begin", "compact/hash.rounds"], apart := false, laid := [("compact/hash.begin", laid_compact_hash_begin), ("compact/hash.rounds", laid_compact_hash_rounds)] }
def SumsSaid : Prop := sumsRow.holds Tryd.pinned (OpenSpec.ofChange sumsSpec)

/-- ITS FALSE NEIGHBOUR: 'it returns false'. Refute it at one input. -/
def sumsWrong : ChangeSpec := { name := "sums", fn := fun _ => fun
  | [d] => { results := [.lit (.bool false)], args := [d] }
  | _ => none }
def SumsWrongFalsely : Prop := sumsRow.holds Tryd.pinned (OpenSpec.ofChange sumsWrong)

/-- 'compactlaw.Roots': WHATEVER THE INPUT: true; the input reads as it did. -/
def rootsSpec : ChangeSpec := { name := "roots", fn := fun _ => fun
  | [d] => { results := [.lit (.bool true)], args := [d] }
  | _ => none }
def rootsRow : OpenClaim := { program := "ytlpcjiollnnmgaadoor", sum := "1aa95e3e96924be8b237bd86211677d6c562215eaf63951eea49c292195148e1", func := "compact/compactlaw.Roots", spec := "roots", named := ["compact/hash.begin", "compact/hash.rounds"], apart := false, laid := [("compact/hash.begin", laid_compact_hash_begin), ("compact/hash.rounds", laid_compact_hash_rounds)] }
def RootsSaid : Prop := rootsRow.holds Tryd.pinned (OpenSpec.ofChange rootsSpec)

/-- ITS FALSE NEIGHBOUR: 'it returns false'. Refute it at one input. -/
def rootsWrong : ChangeSpec := { name := "roots", fn := fun _ => fun
  | [d] => { results := [.lit (.bool false)], args := [d] }
  | _ => none }
def RootsWrongFalsely : Prop := rootsRow.holds Tryd.pinned (OpenSpec.ofChange rootsWrong)

/-- 'compactkeep.Extended': WHATEVER THE INPUT: true; the input reads as it did. -/
def extendedSpec : ChangeSpec := { name := "extended", fn := fun _ => fun
  | [d1, d2] => { results := [.lit (.bool true)], args := [d1, d2] }
  | _ => none }
def extendedRow : OpenClaim := { program := "ytlpcjiollnnmgaadoor", sum := "1aa95e3e96924be8b237bd86211677d6c562215eaf63951eea49c292195148e1", func := "compact/compactkeep.Extended", spec := "extended", named := ["compact/hash.begin", "compact/hash.rounds"], apart := false, laid := [("compact/hash.begin", laid_compact_hash_begin), ("compact/hash.rounds", laid_compact_hash_rounds)] }
def ExtendedSaid : Prop := extendedRow.holds Tryd.pinned (OpenSpec.ofChange extendedSpec)

/-- ITS FALSE NEIGHBOUR: 'it returns false'. Refute it at one input. -/
def extendedWrong : ChangeSpec := { name := "extended", fn := fun _ => fun
  | [d1, d2] => { results := [.lit (.bool false)], args := [d1, d2] }
  | _ => none }
def ExtendedWrongFalsely : Prop := extendedRow.holds Tryd.pinned (OpenSpec.ofChange extendedWrong)

/-- 'compactkeep.Vectors': WHATEVER THE INPUT: true; the input reads as it did. -/
def vectorsSpec : ChangeSpec := { name := "vectors", fn := fun _ => fun
  | [] => { results := [.lit (.bool true)], args := [] }
  | _ => none }
def vectorsRow : OpenClaim := { program := "ytlpcjiollnnmgaadoor", sum := "1aa95e3e96924be8b237bd86211677d6c562215eaf63951eea49c292195148e1", func := "compact/compactkeep.Vectors", spec := "vectors", unfollowed := true, recurses := true, named := ["compact/hash.begin", "compact/hash.rounds"], apart := false, laid := [("compact/hash.begin", laid_compact_hash_begin), ("compact/hash.rounds", laid_compact_hash_rounds)] }
def VectorsSaid : Prop := vectorsRow.holds Tryd.pinned (OpenSpec.ofChange vectorsSpec)

/-- ITS FALSE NEIGHBOUR: 'it returns false'. Refute it at one input. -/
def vectorsWrong : ChangeSpec := { name := "vectors", fn := fun _ => fun
  | [] => { results := [.lit (.bool false)], args := [] }
  | _ => none }
def VectorsWrongFalsely : Prop := vectorsRow.holds Tryd.pinned (OpenSpec.ofChange vectorsWrong)

/-- 'compactlaw.Txids': WHATEVER THE INPUT: true; the input reads as it did. -/
def txidsSpec : ChangeSpec := { name := "txids", fn := fun _ => fun
  | [d] => { results := [.lit (.bool true)], args := [d] }
  | _ => none }
def txidsRow : OpenClaim := { program := "ytlpcjiollnnmgaadoor", sum := "1aa95e3e96924be8b237bd86211677d6c562215eaf63951eea49c292195148e1", func := "compact/compactlaw.Txids", spec := "txids", unfollowed := true, recurses := true, named := ["compact/hash.begin", "compact/hash.rounds"], apart := false, laid := [("compact/hash.begin", laid_compact_hash_begin), ("compact/hash.rounds", laid_compact_hash_rounds)] }
def TxidsSaid : Prop := txidsRow.holds Tryd.pinned (OpenSpec.ofChange txidsSpec)

/-- ITS FALSE NEIGHBOUR: 'it returns false'. Refute it at one input. -/
def txidsWrong : ChangeSpec := { name := "txids", fn := fun _ => fun
  | [d] => { results := [.lit (.bool false)], args := [d] }
  | _ => none }
def TxidsWrongFalsely : Prop := txidsRow.holds Tryd.pinned (OpenSpec.ofChange txidsWrong)

/-- 'compactlaw.Serves': WHATEVER THE INPUT: true; the input reads as it did. -/
def servesSpec : ChangeSpec := { name := "serves", fn := fun _ => fun
  | [d1, d2] => { results := [.lit (.bool true)], args := [d1, d2] }
  | _ => none }
def servesRow : OpenClaim := { program := "ytlpcjiollnnmgaadoor", sum := "1aa95e3e96924be8b237bd86211677d6c562215eaf63951eea49c292195148e1", func := "compact/compactlaw.Serves", spec := "serves", unfollowed := true, recurses := true, named := ["compact/hash.begin", "compact/hash.rounds"], apart := false, laid := [("compact/hash.begin", laid_compact_hash_begin), ("compact/hash.rounds", laid_compact_hash_rounds)] }
def ServesSaid : Prop := servesRow.holds Tryd.pinned (OpenSpec.ofChange servesSpec)

/-- ITS FALSE NEIGHBOUR: 'it returns false'. Refute it at one input. -/
def servesWrong : ChangeSpec := { name := "serves", fn := fun _ => fun
  | [d1, d2] => { results := [.lit (.bool false)], args := [d1, d2] }
  | _ => none }
def ServesWrongFalsely : Prop := servesRow.holds Tryd.pinned (OpenSpec.ofChange servesWrong)

/-- 'compactlaw.Encodes': WHATEVER THE INPUT: true; the input reads as it did. -/
def encodesSpec : ChangeSpec := { name := "encodes", fn := fun _ => fun
  | [d1, d2, d3] => { results := [.lit (.bool true)], args := [d1, d2, d3] }
  | _ => none }
def encodesRow : OpenClaim := { program := "ytlpcjiollnnmgaadoor", sum := "1aa95e3e96924be8b237bd86211677d6c562215eaf63951eea49c292195148e1", func := "compact/compactlaw.Encodes", spec := "encodes", unfollowed := true, recurses := true, named := ["compact/hash.begin", "compact/hash.rounds"], apart := false, laid := [("compact/hash.begin", laid_compact_hash_begin), ("compact/hash.rounds", laid_compact_hash_rounds)] }
def EncodesSaid : Prop := encodesRow.holds Tryd.pinned (OpenSpec.ofChange encodesSpec)

/-- ITS FALSE NEIGHBOUR: 'it returns false'. Refute it at one input. -/
def encodesWrong : ChangeSpec := { name := "encodes", fn := fun _ => fun
  | [d1, d2, d3] => { results := [.lit (.bool false)], args := [d1, d2, d3] }
  | _ => none }
def EncodesWrongFalsely : Prop := encodesRow.holds Tryd.pinned (OpenSpec.ofChange encodesWrong)

/-- 'compactkeep.Known': WHATEVER THE INPUT: true; the input reads as it did. -/
def knownSpec : ChangeSpec := { name := "known", fn := fun _ => fun
  | [] => { results := [.lit (.bool true)], args := [] }
  | _ => none }
def knownRow : OpenClaim := { program := "ytlpcjiollnnmgaadoor", sum := "1aa95e3e96924be8b237bd86211677d6c562215eaf63951eea49c292195148e1", func := "compact/compactkeep.Known", spec := "known", unfollowed := true, recurses := true, named := ["compact/hash.begin", "compact/hash.rounds"], apart := false, laid := [("compact/hash.begin", laid_compact_hash_begin), ("compact/hash.rounds", laid_compact_hash_rounds)] }
def KnownSaid : Prop := knownRow.holds Tryd.pinned (OpenSpec.ofChange knownSpec)

/-- ITS FALSE NEIGHBOUR: 'it returns false'. Refute it at one input. -/
def knownWrong : ChangeSpec := { name := "known", fn := fun _ => fun
  | [] => { results := [.lit (.bool false)], args := [] }
  | _ => none }
def KnownWrongFalsely : Prop := knownRow.holds Tryd.pinned (OpenSpec.ofChange knownWrong)

/- THE SECOND FORM. 'bulk': how many values and letters a reading holds, each counted each time it is reached (what is shared counts as often as it is met; a slice's spare places count too). A statement '..UptoSaid' is the law's where the arguments, and the package variables that the reading takes, are together of bulk at most 1048576: NARROWER than '..Said'. Prove '..Said' where nothing that the law and all that it calls make is longer than what came in: it says more and counts as full. Else prove '..UptoSaid'. A law counts once. -/
mutual
def uptoBulk {H : Type} : DataW H → Nat
  | .lit (.string bytes) => bytes.length + 1
  | .lit _ => 1
  | .nil => 1
  | .ptr d => uptoBulk d + 1
  | .slice elems spare => uptoBulkAll elems + uptoBulkAll spare + 1
  | .agg parts => uptoBulkAll parts + 1
  | .iface _ d => uptoBulk d + 1
  | .map entries => uptoBulkEntries entries + 1
  | .held _ => 1
def uptoBulkAll {H : Type} : List (DataW H) → Nat
  | [] => 0
  | d :: r => uptoBulk d + uptoBulkAll r
def uptoBulkEntries {H : Type} : List (Lit × DataW H) → Nat
  | [] => 0
  | x :: r => uptoBulkEntry x + uptoBulkEntries r
def uptoBulkEntry {H : Type} : Lit × DataW H → Nat
  | (.string bytes, d) => bytes.length + uptoBulk d + 1
  | (_, d) => uptoBulk d + 1
 end
def uptoSmall : (H : Type) → List (DataW H) → Bool := fun _ ds => decide (uptoBulkAll ds ≤ 1048576)
def OpenSpec.upto (s : _root_.Go.ChangeSpec) : _root_.Go.OpenSpec := { _root_.Go.OpenSpec.ofChange s with cond := some uptoSmall }

/-- 'compactlaw.Sums', WHERE WHAT IT READS IS OF BULK AT MOST 1048576: true; the input reads as it did. -/
def sumsUptoRow : OpenClaim := { program := "ytlpcjiollnnmgaadoor", sum := "1aa95e3e96924be8b237bd86211677d6c562215eaf63951eea49c292195148e1", func := "compact/compactlaw.Sums", spec := "sums", named := ["compact/hash.begin", "compact/hash.rounds"], apart := false, laid := [("compact/hash.begin", laid_compact_hash_begin), ("compact/hash.rounds", laid_compact_hash_rounds)], narrowed := true }
def SumsUptoSaid : Prop := sumsUptoRow.holds Tryd.pinned (OpenSpec.upto sumsSpec)

/-- 'compactlaw.Roots', WHERE WHAT IT READS IS OF BULK AT MOST 1048576: true; the input reads as it did. -/
def rootsUptoRow : OpenClaim := { program := "ytlpcjiollnnmgaadoor", sum := "1aa95e3e96924be8b237bd86211677d6c562215eaf63951eea49c292195148e1", func := "compact/compactlaw.Roots", spec := "roots", named := ["compact/hash.begin", "compact/hash.rounds"], apart := false, laid := [("compact/hash.begin", laid_compact_hash_begin), ("compact/hash.rounds", laid_compact_hash_rounds)], narrowed := true }
def RootsUptoSaid : Prop := rootsUptoRow.holds Tryd.pinned (OpenSpec.upto rootsSpec)

/-- 'compactkeep.Extended', WHERE WHAT IT READS IS OF BULK AT MOST 1048576: true; the input reads as it did. -/
def extendedUptoRow : OpenClaim := { program := "ytlpcjiollnnmgaadoor", sum := "1aa95e3e96924be8b237bd86211677d6c562215eaf63951eea49c292195148e1", func := "compact/compactkeep.Extended", spec := "extended", named := ["compact/hash.begin", "compact/hash.rounds"], apart := false, laid := [("compact/hash.begin", laid_compact_hash_begin), ("compact/hash.rounds", laid_compact_hash_rounds)], narrowed := true }
def ExtendedUptoSaid : Prop := extendedUptoRow.holds Tryd.pinned (OpenSpec.upto extendedSpec)

/-- 'compactkeep.Vectors', WHERE WHAT IT READS IS OF BULK AT MOST 1048576: true; the input reads as it did. -/
def vectorsUptoRow : OpenClaim := { program := "ytlpcjiollnnmgaadoor", sum := "1aa95e3e96924be8b237bd86211677d6c562215eaf63951eea49c292195148e1", func := "compact/compactkeep.Vectors", spec := "vectors", unfollowed := true, recurses := true, named := ["compact/hash.begin", "compact/hash.rounds"], apart := false, laid := [("compact/hash.begin", laid_compact_hash_begin), ("compact/hash.rounds", laid_compact_hash_rounds)], narrowed := true }
def VectorsUptoSaid : Prop := vectorsUptoRow.holds Tryd.pinned (OpenSpec.upto vectorsSpec)

/-- 'compactlaw.Txids', WHERE WHAT IT READS IS OF BULK AT MOST 1048576: true; the input reads as it did. -/
def txidsUptoRow : OpenClaim := { program := "ytlpcjiollnnmgaadoor", sum := "1aa95e3e96924be8b237bd86211677d6c562215eaf63951eea49c292195148e1", func := "compact/compactlaw.Txids", spec := "txids", unfollowed := true, recurses := true, named := ["compact/hash.begin", "compact/hash.rounds"], apart := false, laid := [("compact/hash.begin", laid_compact_hash_begin), ("compact/hash.rounds", laid_compact_hash_rounds)], narrowed := true }
def TxidsUptoSaid : Prop := txidsUptoRow.holds Tryd.pinned (OpenSpec.upto txidsSpec)

/-- 'compactlaw.Serves', WHERE WHAT IT READS IS OF BULK AT MOST 1048576: true; the input reads as it did. -/
def servesUptoRow : OpenClaim := { program := "ytlpcjiollnnmgaadoor", sum := "1aa95e3e96924be8b237bd86211677d6c562215eaf63951eea49c292195148e1", func := "compact/compactlaw.Serves", spec := "serves", unfollowed := true, recurses := true, named := ["compact/hash.begin", "compact/hash.rounds"], apart := false, laid := [("compact/hash.begin", laid_compact_hash_begin), ("compact/hash.rounds", laid_compact_hash_rounds)], narrowed := true }
def ServesUptoSaid : Prop := servesUptoRow.holds Tryd.pinned (OpenSpec.upto servesSpec)

/-- 'compactlaw.Encodes', WHERE WHAT IT READS IS OF BULK AT MOST 1048576: true; the input reads as it did. -/
def encodesUptoRow : OpenClaim := { program := "ytlpcjiollnnmgaadoor", sum := "1aa95e3e96924be8b237bd86211677d6c562215eaf63951eea49c292195148e1", func := "compact/compactlaw.Encodes", spec := "encodes", unfollowed := true, recurses := true, named := ["compact/hash.begin", "compact/hash.rounds"], apart := false, laid := [("compact/hash.begin", laid_compact_hash_begin), ("compact/hash.rounds", laid_compact_hash_rounds)], narrowed := true }
def EncodesUptoSaid : Prop := encodesUptoRow.holds Tryd.pinned (OpenSpec.upto encodesSpec)

/-- 'compactkeep.Known', WHERE WHAT IT READS IS OF BULK AT MOST 1048576: true; the input reads as it did. -/
def knownUptoRow : OpenClaim := { program := "ytlpcjiollnnmgaadoor", sum := "1aa95e3e96924be8b237bd86211677d6c562215eaf63951eea49c292195148e1", func := "compact/compactkeep.Known", spec := "known", unfollowed := true, recurses := true, named := ["compact/hash.begin", "compact/hash.rounds"], apart := false, laid := [("compact/hash.begin", laid_compact_hash_begin), ("compact/hash.rounds", laid_compact_hash_rounds)], narrowed := true }
def KnownUptoSaid : Prop := knownUptoRow.holds Tryd.pinned (OpenSpec.upto knownSpec)

end Rows
end Go.Proofs.YtlpcjiollnnmgaaDoor
