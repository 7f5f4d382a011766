/-
  DERIVED. GIVEN WITH THE SEED: THE CARDS: each row of YtldaknhjmhlefaaGreatDoorRows.lean that lists a variable, with what it lists TIED to the program's text (the seventh form; the later family's looks); each row that meets fmt, with fmt's text TOLD by the authors' own Lean function (tested against real Go, not proved from fmt's source: count such statements apart). THE CARD IS WHAT COUNTS. Prove the row's statement (the work); the ties are given (YtldaknhjmhlefaaGreatDoorTie.lean); close each card by the builder's one call (the guide's Derived/Test/ToyasCard.lean, 'card_holds'). Laid BY PROGRAM, IN A SANDBOX (cutbox-door.mjs). By AI agents, Wed Nov 11 2026. No macro, syntax, notation, axiom, sorry.
-/
import Derived.Test.YtldaknhjmhlefaaGreatDoorRows
import GoSem.ClaimSeven
namespace Go.Proofs.YtldaknhjmhlefaaGreatDoor
namespace Rows

/-- THE TIED CARD OF 'signallinglaw25.ObligeStates'. -/
def obligeStatesCard : Claim7 := { stood := { row := obligeStatesRow, standIns := [], harness := (true, "62de3613d7032115aa0e00063c4dcffe1e05918d562cddc9805a3205f7b634e8"), looks := true }, kinds := [], alts := [], laidByText := true, laidKinds := [.data, .data, .data], laidTests := true, laidLooks := .later }
def ObligeStatesCardSaid : Prop := Claim7.holds Tryz.pinned (.plain (OpenSpec.ofChange obligeStatesSpec)) obligeStatesCard

/-- THE TIED CARD OF 'signallinglaw25.ObligeChecks'. -/
def obligeChecksCard : Claim7 := { stood := { row := obligeChecksRow, standIns := [], harness := (true, "62de3613d7032115aa0e00063c4dcffe1e05918d562cddc9805a3205f7b634e8"), looks := true }, kinds := [], alts := [], laidByText := true, laidKinds := [.data, .data, .data], laidTests := true, laidLooks := .later }
def ObligeChecksCardSaid : Prop := Claim7.holds Tryz.pinned (.plain (OpenSpec.ofChange obligeChecksSpec)) obligeChecksCard

/-- THE TIED CARD OF 'signallinglaw25.ObligeBefore'. -/
def obligeBeforeCard : Claim7 := { stood := { row := obligeBeforeRow, standIns := [], harness := (true, "62de3613d7032115aa0e00063c4dcffe1e05918d562cddc9805a3205f7b634e8"), looks := true }, kinds := [], alts := [], laidByText := true, laidKinds := [.data, .data, .data], laidTests := true, laidLooks := .later }
def ObligeBeforeCardSaid : Prop := Claim7.holds Tryz.pinned (.plain (OpenSpec.ofChange obligeBeforeSpec)) obligeBeforeCard

/-- THE TIED CARD OF 'signallinglaw25.ObligeReflects'. -/
def obligeReflectsCard : Claim7 := { stood := { row := obligeReflectsRow, standIns := [], harness := (true, "62de3613d7032115aa0e00063c4dcffe1e05918d562cddc9805a3205f7b634e8"), looks := true }, kinds := [], alts := [], laidByText := true, laidKinds := [.data, .data, .data], laidTests := true, laidLooks := .later }
def ObligeReflectsCardSaid : Prop := Claim7.holds Tryz.pinned (.plain (OpenSpec.ofChange obligeReflectsSpec)) obligeReflectsCard

/-- THE TIED CARD OF 'signallinglaw25.ObligeHold'. -/
def obligeHoldCard : Claim7 := { stood := { row := obligeHoldRow, standIns := [], harness := (true, "62de3613d7032115aa0e00063c4dcffe1e05918d562cddc9805a3205f7b634e8"), looks := true }, kinds := [], alts := [], laidByText := true, laidKinds := [.data, .data, .data], laidTests := true, laidLooks := .later }
def ObligeHoldCardSaid : Prop := Claim7.holds Tryz.pinned (.plain (OpenSpec.ofChange obligeHoldSpec)) obligeHoldCard

/-- THE TIED CARD OF 'signallinglaw25.ObligeFinds'. -/
def obligeFindsCard : Claim7 := { stood := { row := obligeFindsRow, standIns := [], harness := (true, "62de3613d7032115aa0e00063c4dcffe1e05918d562cddc9805a3205f7b634e8"), looks := true }, kinds := [], alts := [], laidByText := true, laidKinds := [.data, .data, .data], laidTests := true, laidLooks := .later }
def ObligeFindsCardSaid : Prop := Claim7.holds Tryz.pinned (.plain (OpenSpec.ofChange obligeFindsSpec)) obligeFindsCard

/-- THE SECOND FORM's CARD OF 'signallinglaw25.ObligeStates'. -/
def obligeStatesUptoCard : Claim7 := { stood := { row := obligeStatesUptoRow, standIns := [], harness := (true, "62de3613d7032115aa0e00063c4dcffe1e05918d562cddc9805a3205f7b634e8"), looks := true }, kinds := [], alts := [], laidByText := true, laidKinds := [.data, .data, .data], laidTests := true, laidLooks := .later }
def ObligeStatesUptoCardSaid : Prop := Claim7.holds Tryz.pinned (.plain (OpenSpec.upto obligeStatesSpec)) obligeStatesUptoCard

/-- THE SECOND FORM's CARD OF 'signallinglaw25.ObligeChecks'. -/
def obligeChecksUptoCard : Claim7 := { stood := { row := obligeChecksUptoRow, standIns := [], harness := (true, "62de3613d7032115aa0e00063c4dcffe1e05918d562cddc9805a3205f7b634e8"), looks := true }, kinds := [], alts := [], laidByText := true, laidKinds := [.data, .data, .data], laidTests := true, laidLooks := .later }
def ObligeChecksUptoCardSaid : Prop := Claim7.holds Tryz.pinned (.plain (OpenSpec.upto obligeChecksSpec)) obligeChecksUptoCard

/-- THE SECOND FORM's CARD OF 'signallinglaw25.ObligeBefore'. -/
def obligeBeforeUptoCard : Claim7 := { stood := { row := obligeBeforeUptoRow, standIns := [], harness := (true, "62de3613d7032115aa0e00063c4dcffe1e05918d562cddc9805a3205f7b634e8"), looks := true }, kinds := [], alts := [], laidByText := true, laidKinds := [.data, .data, .data], laidTests := true, laidLooks := .later }
def ObligeBeforeUptoCardSaid : Prop := Claim7.holds Tryz.pinned (.plain (OpenSpec.upto obligeBeforeSpec)) obligeBeforeUptoCard

/-- THE SECOND FORM's CARD OF 'signallinglaw25.ObligeReflects'. -/
def obligeReflectsUptoCard : Claim7 := { stood := { row := obligeReflectsUptoRow, standIns := [], harness := (true, "62de3613d7032115aa0e00063c4dcffe1e05918d562cddc9805a3205f7b634e8"), looks := true }, kinds := [], alts := [], laidByText := true, laidKinds := [.data, .data, .data], laidTests := true, laidLooks := .later }
def ObligeReflectsUptoCardSaid : Prop := Claim7.holds Tryz.pinned (.plain (OpenSpec.upto obligeReflectsSpec)) obligeReflectsUptoCard

/-- THE SECOND FORM's CARD OF 'signallinglaw25.ObligeHold'. -/
def obligeHoldUptoCard : Claim7 := { stood := { row := obligeHoldUptoRow, standIns := [], harness := (true, "62de3613d7032115aa0e00063c4dcffe1e05918d562cddc9805a3205f7b634e8"), looks := true }, kinds := [], alts := [], laidByText := true, laidKinds := [.data, .data, .data], laidTests := true, laidLooks := .later }
def ObligeHoldUptoCardSaid : Prop := Claim7.holds Tryz.pinned (.plain (OpenSpec.upto obligeHoldSpec)) obligeHoldUptoCard

/-- THE SECOND FORM's CARD OF 'signallinglaw25.ObligeFinds'. -/
def obligeFindsUptoCard : Claim7 := { stood := { row := obligeFindsUptoRow, standIns := [], harness := (true, "62de3613d7032115aa0e00063c4dcffe1e05918d562cddc9805a3205f7b634e8"), looks := true }, kinds := [], alts := [], laidByText := true, laidKinds := [.data, .data, .data], laidTests := true, laidLooks := .later }
def ObligeFindsUptoCardSaid : Prop := Claim7.holds Tryz.pinned (.plain (OpenSpec.upto obligeFindsSpec)) obligeFindsUptoCard
end Rows
end Go.Proofs.YtldaknhjmhlefaaGreatDoor
