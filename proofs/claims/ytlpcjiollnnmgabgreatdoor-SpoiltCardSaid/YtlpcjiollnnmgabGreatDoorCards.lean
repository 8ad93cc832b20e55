/-
  DERIVED. GIVEN WITH THE SEED: THE CARDS: each row of YtlpcjiollnnmgabGreatDoorRows.lean that lists a variable, with what it lists TIED to the program's text (the seventh form; the later family's looks); each row that meets fmt, with fmt's text TOLD by the authors' own Lean function (tested against real Go, not proved from fmt's source: count such statements apart). THE CARD IS WHAT COUNTS. Prove the row's statement (the work); the ties are given (YtlpcjiollnnmgabGreatDoorTie.lean); close each card by the builder's one call (the guide's Derived/Test/ToyasCard.lean, 'card_holds'). Laid BY PROGRAM, IN A SANDBOX (cutbox-door.mjs). By AI agents, Wed Nov 11 2026. No macro, syntax, notation, axiom, sorry.
-/
import Derived.Test.YtlpcjiollnnmgabGreatDoorRows
import GoSem.ClaimSeven
namespace Go.Proofs.YtlpcjiollnnmgabGreatDoor
namespace Rows

/-- THE TIED CARD OF 'compactlaw.Adds'. -/
def addsCard : Claim7 := { stood := { row := addsRow, standIns := [], harness := (true, "89d3f759ed674ff8a9139f38a3cea2efe6b6d83184062dd38367bbb5be0175db"), looks := true }, kinds := [], alts := [], goes := true, laidByText := true, laidKinds := [.data, .data], laidTests := true, laidLooks := .later }
def AddsCardSaid : Prop := Claim7.holds Tryz.pinned (.plain (OpenSpec.ofChange addsSpec)) addsCard

/-- THE TIED CARD OF 'compactlaw.Drops'. -/
def dropsCard : Claim7 := { stood := { row := dropsRow, standIns := [], harness := (true, "89d3f759ed674ff8a9139f38a3cea2efe6b6d83184062dd38367bbb5be0175db"), looks := true }, kinds := [], alts := [], goes := true, laidByText := true, laidKinds := [.data, .data], laidTests := true, laidLooks := .later }
def DropsCardSaid : Prop := Claim7.holds Tryz.pinned (.plain (OpenSpec.ofChange dropsSpec)) dropsCard

/-- THE TIED CARD OF 'compactlaw.IDs'. -/
def iDsCard : Claim7 := { stood := { row := iDsRow, standIns := [], harness := (true, "89d3f759ed674ff8a9139f38a3cea2efe6b6d83184062dd38367bbb5be0175db"), looks := true }, kinds := [], alts := [], goes := true, laidByText := true, laidKinds := [.data, .data], laidTests := true, laidLooks := .later }
def IDsCardSaid : Prop := Claim7.holds Tryz.pinned (.plain (OpenSpec.ofChange iDsSpec)) iDsCard

/-- THE TIED CARD OF 'compactlaw.Compacts'. -/
def compactsCard : Claim7 := { stood := { row := compactsRow, standIns := [], harness := (true, "89d3f759ed674ff8a9139f38a3cea2efe6b6d83184062dd38367bbb5be0175db"), looks := true }, kinds := [], alts := [], goes := true, laidByText := true, laidKinds := [.data, .data], laidTests := true, laidLooks := .later }
def CompactsCardSaid : Prop := Claim7.holds Tryz.pinned (.plain (OpenSpec.ofChange compactsSpec)) compactsCard

/-- THE TIED CARD OF 'compactlaw.Replies'. -/
def repliesCard : Claim7 := { stood := { row := repliesRow, standIns := [], harness := (true, "89d3f759ed674ff8a9139f38a3cea2efe6b6d83184062dd38367bbb5be0175db"), looks := true }, kinds := [], alts := [], goes := true, laidByText := true, laidKinds := [.data, .data], laidTests := true, laidLooks := .later }
def RepliesCardSaid : Prop := Claim7.holds Tryz.pinned (.plain (OpenSpec.ofChange repliesSpec)) repliesCard

/-- THE TIED CARD OF 'compactlaw.Owned'. -/
def ownedCard : Claim7 := { stood := { row := ownedRow, standIns := [], harness := (true, "89d3f759ed674ff8a9139f38a3cea2efe6b6d83184062dd38367bbb5be0175db"), looks := true }, kinds := [], alts := [], goes := true, laidByText := true, laidKinds := [.data, .data], laidTests := true, laidLooks := .later }
def OwnedCardSaid : Prop := Claim7.holds Tryz.pinned (.plain (OpenSpec.ofChange ownedSpec)) ownedCard

/-- THE TIED CARD OF 'compactlaw.All'. -/
def allCard : Claim7 := { stood := { row := allRow, standIns := [], harness := (true, "89d3f759ed674ff8a9139f38a3cea2efe6b6d83184062dd38367bbb5be0175db"), looks := true }, kinds := [], alts := [], goes := true, laidByText := true, laidKinds := [.data, .data], laidTests := true, laidLooks := .later }
def AllCardSaid : Prop := Claim7.holds Tryz.pinned (.plain (OpenSpec.ofChange allSpec)) allCard

/-- THE TIED CARD OF 'compactkeep.Spoilt'. -/
def spoiltCard : Claim7 := { stood := { row := spoiltRow, standIns := [], harness := (true, "89d3f759ed674ff8a9139f38a3cea2efe6b6d83184062dd38367bbb5be0175db"), looks := true }, kinds := [], alts := [], goes := true, laidByText := true, laidKinds := [.data, .data], laidTests := true, laidLooks := .later }
def SpoiltCardSaid : Prop := Claim7.holds Tryz.pinned (.plain (OpenSpec.ofChange spoiltSpec)) spoiltCard

/-- THE SECOND FORM's CARD OF 'compactlaw.Adds'. -/
def addsUptoCard : Claim7 := { stood := { row := addsUptoRow, standIns := [], harness := (true, "89d3f759ed674ff8a9139f38a3cea2efe6b6d83184062dd38367bbb5be0175db"), looks := true }, kinds := [], alts := [], goes := true, laidByText := true, laidKinds := [.data, .data], laidTests := true, laidLooks := .later }
def AddsUptoCardSaid : Prop := Claim7.holds Tryz.pinned (.plain (OpenSpec.upto addsSpec)) addsUptoCard

/-- THE SECOND FORM's CARD OF 'compactlaw.Drops'. -/
def dropsUptoCard : Claim7 := { stood := { row := dropsUptoRow, standIns := [], harness := (true, "89d3f759ed674ff8a9139f38a3cea2efe6b6d83184062dd38367bbb5be0175db"), looks := true }, kinds := [], alts := [], goes := true, laidByText := true, laidKinds := [.data, .data], laidTests := true, laidLooks := .later }
def DropsUptoCardSaid : Prop := Claim7.holds Tryz.pinned (.plain (OpenSpec.upto dropsSpec)) dropsUptoCard

/-- THE SECOND FORM's CARD OF 'compactlaw.IDs'. -/
def iDsUptoCard : Claim7 := { stood := { row := iDsUptoRow, standIns := [], harness := (true, "89d3f759ed674ff8a9139f38a3cea2efe6b6d83184062dd38367bbb5be0175db"), looks := true }, kinds := [], alts := [], goes := true, laidByText := true, laidKinds := [.data, .data], laidTests := true, laidLooks := .later }
def IDsUptoCardSaid : Prop := Claim7.holds Tryz.pinned (.plain (OpenSpec.upto iDsSpec)) iDsUptoCard

/-- THE SECOND FORM's CARD OF 'compactlaw.Compacts'. -/
def compactsUptoCard : Claim7 := { stood := { row := compactsUptoRow, standIns := [], harness := (true, "89d3f759ed674ff8a9139f38a3cea2efe6b6d83184062dd38367bbb5be0175db"), looks := true }, kinds := [], alts := [], goes := true, laidByText := true, laidKinds := [.data, .data], laidTests := true, laidLooks := .later }
def CompactsUptoCardSaid : Prop := Claim7.holds Tryz.pinned (.plain (OpenSpec.upto compactsSpec)) compactsUptoCard

/-- THE SECOND FORM's CARD OF 'compactlaw.Replies'. -/
def repliesUptoCard : Claim7 := { stood := { row := repliesUptoRow, standIns := [], harness := (true, "89d3f759ed674ff8a9139f38a3cea2efe6b6d83184062dd38367bbb5be0175db"), looks := true }, kinds := [], alts := [], goes := true, laidByText := true, laidKinds := [.data, .data], laidTests := true, laidLooks := .later }
def RepliesUptoCardSaid : Prop := Claim7.holds Tryz.pinned (.plain (OpenSpec.upto repliesSpec)) repliesUptoCard

/-- THE SECOND FORM's CARD OF 'compactlaw.Owned'. -/
def ownedUptoCard : Claim7 := { stood := { row := ownedUptoRow, standIns := [], harness := (true, "89d3f759ed674ff8a9139f38a3cea2efe6b6d83184062dd38367bbb5be0175db"), looks := true }, kinds := [], alts := [], goes := true, laidByText := true, laidKinds := [.data, .data], laidTests := true, laidLooks := .later }
def OwnedUptoCardSaid : Prop := Claim7.holds Tryz.pinned (.plain (OpenSpec.upto ownedSpec)) ownedUptoCard

/-- THE SECOND FORM's CARD OF 'compactlaw.All'. -/
def allUptoCard : Claim7 := { stood := { row := allUptoRow, standIns := [], harness := (true, "89d3f759ed674ff8a9139f38a3cea2efe6b6d83184062dd38367bbb5be0175db"), looks := true }, kinds := [], alts := [], goes := true, laidByText := true, laidKinds := [.data, .data], laidTests := true, laidLooks := .later }
def AllUptoCardSaid : Prop := Claim7.holds Tryz.pinned (.plain (OpenSpec.upto allSpec)) allUptoCard

/-- THE SECOND FORM's CARD OF 'compactkeep.Spoilt'. -/
def spoiltUptoCard : Claim7 := { stood := { row := spoiltUptoRow, standIns := [], harness := (true, "89d3f759ed674ff8a9139f38a3cea2efe6b6d83184062dd38367bbb5be0175db"), looks := true }, kinds := [], alts := [], goes := true, laidByText := true, laidKinds := [.data, .data], laidTests := true, laidLooks := .later }
def SpoiltUptoCardSaid : Prop := Claim7.holds Tryz.pinned (.plain (OpenSpec.upto spoiltSpec)) spoiltUptoCard
end Rows
end Go.Proofs.YtlpcjiollnnmgabGreatDoor
