/-
  DERIVED. GIVEN WITH THE SEED: THE CARDS: each row of YtlpcjiollnnmgabDoorRows.lean that lists a variable, with what it lists TIED to the program's text (the seventh form; the later family's looks); each row that meets fmt, with fmt's text TOLD by the authors' own Lean function (tested against real Go, not proved from fmt's source: count such statements apart). THE CARD IS WHAT COUNTS. Prove the row's statement (the work); the ties are given (YtlpcjiollnnmgabDoorTie.lean); close each card by the builder's one call (the guide's Derived/Test/ToyasCard.lean, 'card_holds'). Laid BY PROGRAM, IN A SANDBOX (cutbox-door.mjs). By AI agents, Wed Nov 11 2026. No macro, syntax, notation, axiom, sorry.
-/
import Derived.Test.YtlpcjiollnnmgabDoorRows
import GoSem.ClaimSeven
namespace Go.Proofs.YtlpcjiollnnmgabDoor
namespace Rows

/-- THE TIED CARD OF 'compactkeep.Pools'. -/
def poolsCard : Claim7 := { stood := { row := poolsRow, standIns := [], harness := (true, "b0e74976a35ce9c3d00ff947908d9d873524839ec60dbd4aadd1ccac6f7190c9"), looks := true }, kinds := [], alts := [], goes := true, laidByText := true, laidKinds := [.data, .data], laidTests := true, laidLooks := .later }
def PoolsCardSaid : Prop := Claim7.holds Tryd.pinned (.plain (OpenSpec.ofChange poolsSpec)) poolsCard

/-- THE TIED CARD OF 'compactkeep.Sound'. -/
def soundCard : Claim7 := { stood := { row := soundRow, standIns := [], harness := (true, "b0e74976a35ce9c3d00ff947908d9d873524839ec60dbd4aadd1ccac6f7190c9"), looks := true }, kinds := [], alts := [], goes := true, laidByText := true, laidKinds := [.data, .data], laidTests := true, laidLooks := .later }
def SoundCardSaid : Prop := Claim7.holds Tryd.pinned (.plain (OpenSpec.ofChange soundSpec)) soundCard

/-- THE SECOND FORM's CARD OF 'compactkeep.Pools'. -/
def poolsUptoCard : Claim7 := { stood := { row := poolsUptoRow, standIns := [], harness := (true, "b0e74976a35ce9c3d00ff947908d9d873524839ec60dbd4aadd1ccac6f7190c9"), looks := true }, kinds := [], alts := [], goes := true, laidByText := true, laidKinds := [.data, .data], laidTests := true, laidLooks := .later }
def PoolsUptoCardSaid : Prop := Claim7.holds Tryd.pinned (.plain (OpenSpec.upto poolsSpec)) poolsUptoCard

/-- THE SECOND FORM's CARD OF 'compactkeep.Sound'. -/
def soundUptoCard : Claim7 := { stood := { row := soundUptoRow, standIns := [], harness := (true, "b0e74976a35ce9c3d00ff947908d9d873524839ec60dbd4aadd1ccac6f7190c9"), looks := true }, kinds := [], alts := [], goes := true, laidByText := true, laidKinds := [.data, .data], laidTests := true, laidLooks := .later }
def SoundUptoCardSaid : Prop := Claim7.holds Tryd.pinned (.plain (OpenSpec.upto soundSpec)) soundUptoCard
end Rows
end Go.Proofs.YtlpcjiollnnmgabDoor
