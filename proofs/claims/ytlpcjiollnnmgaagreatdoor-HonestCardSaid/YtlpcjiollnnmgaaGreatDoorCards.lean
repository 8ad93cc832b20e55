/-
  DERIVED. GIVEN WITH THE SEED: THE CARDS: each row of YtlpcjiollnnmgaaGreatDoorRows.lean that lists a variable, with what it lists TIED to the program's text (the seventh form; the later family's looks); each row that meets fmt, with fmt's text TOLD by the authors' own Lean function (tested against real Go, not proved from fmt's source: count such statements apart). THE CARD IS WHAT COUNTS. Prove the row's statement (the work); the ties are given (YtlpcjiollnnmgaaGreatDoorTie.lean); close each card by the builder's one call (the guide's Derived/Test/ToyasCard.lean, 'card_holds'). Laid BY PROGRAM, IN A SANDBOX (cutbox-door.mjs). By AI agents, Wed Nov 11 2026. No macro, syntax, notation, axiom, sorry.
-/
import Derived.Test.YtlpcjiollnnmgaaGreatDoorRows
import GoSem.ClaimSeven
namespace Go.Proofs.YtlpcjiollnnmgaaGreatDoor
namespace Rows

/-- THE TIED CARD OF 'compactkeep.Refuses'. -/
def refusesCard : Claim7 := { stood := { row := refusesRow, standIns := [], harness := (true, "ff444e96e54904e4b0c2c9e59796ba4d8aeffe3be6588f403c5ea8690c185d4e"), looks := true }, kinds := [], alts := [], goes := true, laidByText := true, laidKinds := [.data, .data], laidTests := true, laidLooks := .later }
def RefusesCardSaid : Prop := Claim7.holds Tryz.pinned (.plain (OpenSpec.ofChange refusesSpec)) refusesCard

/-- THE TIED CARD OF 'compactkeep.Honest'. -/
def honestCard : Claim7 := { stood := { row := honestRow, standIns := [], harness := (true, "ff444e96e54904e4b0c2c9e59796ba4d8aeffe3be6588f403c5ea8690c185d4e"), looks := true }, kinds := [], alts := [], goes := true, laidByText := true, laidKinds := [.data, .data], laidTests := true, laidLooks := .later }
def HonestCardSaid : Prop := Claim7.holds Tryz.pinned (.plain (OpenSpec.ofChange honestSpec)) honestCard

/-- THE SECOND FORM's CARD OF 'compactkeep.Refuses'. -/
def refusesUptoCard : Claim7 := { stood := { row := refusesUptoRow, standIns := [], harness := (true, "ff444e96e54904e4b0c2c9e59796ba4d8aeffe3be6588f403c5ea8690c185d4e"), looks := true }, kinds := [], alts := [], goes := true, laidByText := true, laidKinds := [.data, .data], laidTests := true, laidLooks := .later }
def RefusesUptoCardSaid : Prop := Claim7.holds Tryz.pinned (.plain (OpenSpec.upto refusesSpec)) refusesUptoCard

/-- THE SECOND FORM's CARD OF 'compactkeep.Honest'. -/
def honestUptoCard : Claim7 := { stood := { row := honestUptoRow, standIns := [], harness := (true, "ff444e96e54904e4b0c2c9e59796ba4d8aeffe3be6588f403c5ea8690c185d4e"), looks := true }, kinds := [], alts := [], goes := true, laidByText := true, laidKinds := [.data, .data], laidTests := true, laidLooks := .later }
def HonestUptoCardSaid : Prop := Claim7.holds Tryz.pinned (.plain (OpenSpec.upto honestSpec)) honestUptoCard
end Rows
end Go.Proofs.YtlpcjiollnnmgaaGreatDoor
