/-
  DERIVED. GIVEN WITH THE SEED: THE CARDS: each row of YtlpcjiollnnmgaaDoorRows.lean that lists a variable, with what it lists TIED to the program's text (the seventh form; the later family's looks); each row that meets fmt, with fmt's text TOLD by the authors' own Lean function (tested against real Go, not proved from fmt's source: count such statements apart). THE CARD IS WHAT COUNTS. Prove the row's statement (the work); the ties are given (YtlpcjiollnnmgaaDoorTie.lean); close each card by the builder's one call (the guide's Derived/Test/ToyasCard.lean, 'card_holds'). Laid BY PROGRAM, IN A SANDBOX (cutbox-door.mjs). By AI agents, Wed Nov 11 2026. No macro, syntax, notation, axiom, sorry.
-/
import Derived.Test.YtlpcjiollnnmgaaDoorRows
import GoSem.ClaimSeven
namespace Go.Proofs.YtlpcjiollnnmgaaDoor
namespace Rows

/-- THE TIED CARD OF 'compactlaw.Sums'. -/
def sumsCard : Claim7 := { stood := { row := sumsRow, standIns := [], harness := (true, "caead3a618755c49cbe002705e76f503ba7172aab0781233a93fde5d63e35180"), looks := true }, kinds := [], alts := [], laidByText := true, laidKinds := [.data, .data], laidTests := true, laidLooks := .later }
def SumsCardSaid : Prop := Claim7.holds Tryd.pinned (.plain (OpenSpec.ofChange sumsSpec)) sumsCard

/-- THE TIED CARD OF 'compactlaw.Roots'. -/
def rootsCard : Claim7 := { stood := { row := rootsRow, standIns := [], harness := (true, "caead3a618755c49cbe002705e76f503ba7172aab0781233a93fde5d63e35180"), looks := true }, kinds := [], alts := [], laidByText := true, laidKinds := [.data, .data], laidTests := true, laidLooks := .later }
def RootsCardSaid : Prop := Claim7.holds Tryd.pinned (.plain (OpenSpec.ofChange rootsSpec)) rootsCard

/-- THE TIED CARD OF 'compactkeep.Extended'. -/
def extendedCard : Claim7 := { stood := { row := extendedRow, standIns := [], harness := (true, "caead3a618755c49cbe002705e76f503ba7172aab0781233a93fde5d63e35180"), looks := true }, kinds := [], alts := [], laidByText := true, laidKinds := [.data, .data], laidTests := true, laidLooks := .later }
def ExtendedCardSaid : Prop := Claim7.holds Tryd.pinned (.plain (OpenSpec.ofChange extendedSpec)) extendedCard

/-- THE TIED CARD OF 'compactkeep.Vectors'. -/
def vectorsCard : Claim7 := { stood := { row := vectorsRow, standIns := [], harness := (true, "caead3a618755c49cbe002705e76f503ba7172aab0781233a93fde5d63e35180"), looks := true }, kinds := [], alts := [], laidByText := true, laidKinds := [.data, .data], laidTests := true, laidLooks := .later }
def VectorsCardSaid : Prop := Claim7.holds Tryd.pinned (.plain (OpenSpec.ofChange vectorsSpec)) vectorsCard

/-- THE TIED CARD OF 'compactlaw.Txids'. -/
def txidsCard : Claim7 := { stood := { row := txidsRow, standIns := [], harness := (true, "caead3a618755c49cbe002705e76f503ba7172aab0781233a93fde5d63e35180"), looks := true }, kinds := [], alts := [], laidByText := true, laidKinds := [.data, .data], laidTests := true, laidLooks := .later }
def TxidsCardSaid : Prop := Claim7.holds Tryd.pinned (.plain (OpenSpec.ofChange txidsSpec)) txidsCard

/-- THE TIED CARD OF 'compactlaw.Serves'. -/
def servesCard : Claim7 := { stood := { row := servesRow, standIns := [], harness := (true, "caead3a618755c49cbe002705e76f503ba7172aab0781233a93fde5d63e35180"), looks := true }, kinds := [], alts := [], laidByText := true, laidKinds := [.data, .data], laidTests := true, laidLooks := .later }
def ServesCardSaid : Prop := Claim7.holds Tryd.pinned (.plain (OpenSpec.ofChange servesSpec)) servesCard

/-- THE TIED CARD OF 'compactlaw.Encodes'. -/
def encodesCard : Claim7 := { stood := { row := encodesRow, standIns := [], harness := (true, "caead3a618755c49cbe002705e76f503ba7172aab0781233a93fde5d63e35180"), looks := true }, kinds := [], alts := [], laidByText := true, laidKinds := [.data, .data], laidTests := true, laidLooks := .later }
def EncodesCardSaid : Prop := Claim7.holds Tryd.pinned (.plain (OpenSpec.ofChange encodesSpec)) encodesCard

/-- THE TIED CARD OF 'compactkeep.Known'. -/
def knownCard : Claim7 := { stood := { row := knownRow, standIns := [], harness := (true, "caead3a618755c49cbe002705e76f503ba7172aab0781233a93fde5d63e35180"), looks := true }, kinds := [], alts := [], laidByText := true, laidKinds := [.data, .data], laidTests := true, laidLooks := .later }
def KnownCardSaid : Prop := Claim7.holds Tryd.pinned (.plain (OpenSpec.ofChange knownSpec)) knownCard

/-- THE SECOND FORM's CARD OF 'compactlaw.Sums'. -/
def sumsUptoCard : Claim7 := { stood := { row := sumsUptoRow, standIns := [], harness := (true, "caead3a618755c49cbe002705e76f503ba7172aab0781233a93fde5d63e35180"), looks := true }, kinds := [], alts := [], laidByText := true, laidKinds := [.data, .data], laidTests := true, laidLooks := .later }
def SumsUptoCardSaid : Prop := Claim7.holds Tryd.pinned (.plain (OpenSpec.upto sumsSpec)) sumsUptoCard

/-- THE SECOND FORM's CARD OF 'compactlaw.Roots'. -/
def rootsUptoCard : Claim7 := { stood := { row := rootsUptoRow, standIns := [], harness := (true, "caead3a618755c49cbe002705e76f503ba7172aab0781233a93fde5d63e35180"), looks := true }, kinds := [], alts := [], laidByText := true, laidKinds := [.data, .data], laidTests := true, laidLooks := .later }
def RootsUptoCardSaid : Prop := Claim7.holds Tryd.pinned (.plain (OpenSpec.upto rootsSpec)) rootsUptoCard

/-- THE SECOND FORM's CARD OF 'compactkeep.Extended'. -/
def extendedUptoCard : Claim7 := { stood := { row := extendedUptoRow, standIns := [], harness := (true, "caead3a618755c49cbe002705e76f503ba7172aab0781233a93fde5d63e35180"), looks := true }, kinds := [], alts := [], laidByText := true, laidKinds := [.data, .data], laidTests := true, laidLooks := .later }
def ExtendedUptoCardSaid : Prop := Claim7.holds Tryd.pinned (.plain (OpenSpec.upto extendedSpec)) extendedUptoCard

/-- THE SECOND FORM's CARD OF 'compactkeep.Vectors'. -/
def vectorsUptoCard : Claim7 := { stood := { row := vectorsUptoRow, standIns := [], harness := (true, "caead3a618755c49cbe002705e76f503ba7172aab0781233a93fde5d63e35180"), looks := true }, kinds := [], alts := [], laidByText := true, laidKinds := [.data, .data], laidTests := true, laidLooks := .later }
def VectorsUptoCardSaid : Prop := Claim7.holds Tryd.pinned (.plain (OpenSpec.upto vectorsSpec)) vectorsUptoCard

/-- THE SECOND FORM's CARD OF 'compactlaw.Txids'. -/
def txidsUptoCard : Claim7 := { stood := { row := txidsUptoRow, standIns := [], harness := (true, "caead3a618755c49cbe002705e76f503ba7172aab0781233a93fde5d63e35180"), looks := true }, kinds := [], alts := [], laidByText := true, laidKinds := [.data, .data], laidTests := true, laidLooks := .later }
def TxidsUptoCardSaid : Prop := Claim7.holds Tryd.pinned (.plain (OpenSpec.upto txidsSpec)) txidsUptoCard

/-- THE SECOND FORM's CARD OF 'compactlaw.Serves'. -/
def servesUptoCard : Claim7 := { stood := { row := servesUptoRow, standIns := [], harness := (true, "caead3a618755c49cbe002705e76f503ba7172aab0781233a93fde5d63e35180"), looks := true }, kinds := [], alts := [], laidByText := true, laidKinds := [.data, .data], laidTests := true, laidLooks := .later }
def ServesUptoCardSaid : Prop := Claim7.holds Tryd.pinned (.plain (OpenSpec.upto servesSpec)) servesUptoCard

/-- THE SECOND FORM's CARD OF 'compactlaw.Encodes'. -/
def encodesUptoCard : Claim7 := { stood := { row := encodesUptoRow, standIns := [], harness := (true, "caead3a618755c49cbe002705e76f503ba7172aab0781233a93fde5d63e35180"), looks := true }, kinds := [], alts := [], laidByText := true, laidKinds := [.data, .data], laidTests := true, laidLooks := .later }
def EncodesUptoCardSaid : Prop := Claim7.holds Tryd.pinned (.plain (OpenSpec.upto encodesSpec)) encodesUptoCard

/-- THE SECOND FORM's CARD OF 'compactkeep.Known'. -/
def knownUptoCard : Claim7 := { stood := { row := knownUptoRow, standIns := [], harness := (true, "caead3a618755c49cbe002705e76f503ba7172aab0781233a93fde5d63e35180"), looks := true }, kinds := [], alts := [], laidByText := true, laidKinds := [.data, .data], laidTests := true, laidLooks := .later }
def KnownUptoCardSaid : Prop := Claim7.holds Tryd.pinned (.plain (OpenSpec.upto knownSpec)) knownUptoCard
end Rows
end Go.Proofs.YtlpcjiollnnmgaaDoor
