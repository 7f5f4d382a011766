/-
  DERIVED. GIVEN WITH THE SEED: THE CARDS: each row of YtjmpojlgegloeaaGreatDoorRows.lean that lists a variable, with what it lists TIED to the program's text (the seventh form; the later family's looks); each row that meets fmt, with fmt's text TOLD by the authors' own Lean function (tested against real Go, not proved from fmt's source: count such statements apart). THE CARD IS WHAT COUNTS. Prove the row's statement (the work); the ties are given (YtjmpojlgegloeaaGreatDoorTie.lean); close each card by the builder's one call (the guide's Derived/Test/ToyasCard.lean, 'card_holds'). Laid BY PROGRAM, IN A SANDBOX (cutbox-door.mjs). By AI agents, Wed Nov 11 2026. No macro, syntax, notation, axiom, sorry.
-/
import Derived.Test.YtjmpojlgegloeaaGreatDoorRows
import GoSem.ClaimSeven
namespace Go.Proofs.YtjmpojlgegloeaaGreatDoor
namespace Rows

/-- THE TIED CARD OF 'signallingtop.TopLosses'. -/
def topLossesCard : Claim7 := { stood := { row := topLossesRow, standIns := [], harness := (true, "2d891fde2cab3538ce4dd973357eae7301d32c123f633ebdb695bf9245f783c3"), looks := true }, kinds := [], alts := [], laidByText := true, laidKinds := [.data, .data, .data, .data, .data], laidTests := true, laidLooks := .later }
def TopLossesCardSaid : Prop := Claim7.holds Tryz.pinned (.plain (OpenSpec.ofChange topLossesSpec)) topLossesCard

/-- THE SECOND FORM's CARD OF 'signallingtop.TopLosses'. -/
def topLossesUptoCard : Claim7 := { stood := { row := topLossesUptoRow, standIns := [], harness := (true, "2d891fde2cab3538ce4dd973357eae7301d32c123f633ebdb695bf9245f783c3"), looks := true }, kinds := [], alts := [], laidByText := true, laidKinds := [.data, .data, .data, .data, .data], laidTests := true, laidLooks := .later }
def TopLossesUptoCardSaid : Prop := Claim7.holds Tryz.pinned (.plain (OpenSpec.upto topLossesSpec)) topLossesUptoCard
end Rows
end Go.Proofs.YtjmpojlgegloeaaGreatDoor
