/-
  DERIVED. GIVEN WITH THE SEED: THE CARDS: each row of YtofndjhpbonpbaaGreatDoorRows.lean that lists a variable, with what it lists TIED to the program's text (the seventh form; the later family's looks); each row that meets fmt, with fmt's text TOLD by the authors' own Lean function (tested against real Go, not proved from fmt's source: count such statements apart). THE CARD IS WHAT COUNTS. Prove the row's statement (the work); the ties are given (YtofndjhpbonpbaaGreatDoorTie.lean); close each card by the builder's one call (the guide's Derived/Test/ToyasCard.lean, 'card_holds'). Laid BY PROGRAM, IN A SANDBOX (cutbox-door.mjs). By AI agents, Wed Nov 11 2026. No macro, syntax, notation, axiom, sorry.
-/
import Derived.Test.YtofndjhpbonpbaaGreatDoorRows
import GoSem.ClaimSeven
namespace Go.Proofs.YtofndjhpbonpbaaGreatDoor
namespace Rows

/-- THE TIED CARD OF 'signallinglaw58.SafetyChecks'. -/
def safetyChecksCard : Claim7 := { stood := { row := safetyChecksRow, standIns := [], harness := (true, "b3ce61f269a6b349f5e39448a631c759cc7ee7769e20f7879adf1196ac1bed28"), looks := false }, kinds := [], alts := [], laidByText := true, laidKinds := [.data], laidTests := true, laidLooks := .later }
def SafetyChecksCardSaid : Prop := Claim7.holds Tryz.pinned (.plain (OpenSpec.ofChange safetyChecksSpec)) safetyChecksCard

/-- THE TIED CARD OF 'signallinglaw58.SafetyApart'. -/
def safetyApartCard : Claim7 := { stood := { row := safetyApartRow, standIns := [], harness := (true, "b3ce61f269a6b349f5e39448a631c759cc7ee7769e20f7879adf1196ac1bed28"), looks := false }, kinds := [], alts := [], laidByText := true, laidKinds := [.data], laidTests := true, laidLooks := .later }
def SafetyApartCardSaid : Prop := Claim7.holds Tryz.pinned (.plain (OpenSpec.ofChange safetyApartSpec)) safetyApartCard

/-- THE TIED CARD OF 'signallinglaw58.SafetyFinds'. -/
def safetyFindsCard : Claim7 := { stood := { row := safetyFindsRow, standIns := [], harness := (true, "b3ce61f269a6b349f5e39448a631c759cc7ee7769e20f7879adf1196ac1bed28"), looks := false }, kinds := [], alts := [], laidByText := true, laidKinds := [.data], laidTests := true, laidLooks := .later }
def SafetyFindsCardSaid : Prop := Claim7.holds Tryz.pinned (.plain (OpenSpec.ofChange safetyFindsSpec)) safetyFindsCard

/-- THE SECOND FORM's CARD OF 'signallinglaw58.SafetyChecks'. -/
def safetyChecksUptoCard : Claim7 := { stood := { row := safetyChecksUptoRow, standIns := [], harness := (true, "b3ce61f269a6b349f5e39448a631c759cc7ee7769e20f7879adf1196ac1bed28"), looks := false }, kinds := [], alts := [], laidByText := true, laidKinds := [.data], laidTests := true, laidLooks := .later }
def SafetyChecksUptoCardSaid : Prop := Claim7.holds Tryz.pinned (.plain (OpenSpec.upto safetyChecksSpec)) safetyChecksUptoCard

/-- THE SECOND FORM's CARD OF 'signallinglaw58.SafetyApart'. -/
def safetyApartUptoCard : Claim7 := { stood := { row := safetyApartUptoRow, standIns := [], harness := (true, "b3ce61f269a6b349f5e39448a631c759cc7ee7769e20f7879adf1196ac1bed28"), looks := false }, kinds := [], alts := [], laidByText := true, laidKinds := [.data], laidTests := true, laidLooks := .later }
def SafetyApartUptoCardSaid : Prop := Claim7.holds Tryz.pinned (.plain (OpenSpec.upto safetyApartSpec)) safetyApartUptoCard

/-- THE SECOND FORM's CARD OF 'signallinglaw58.SafetyFinds'. -/
def safetyFindsUptoCard : Claim7 := { stood := { row := safetyFindsUptoRow, standIns := [], harness := (true, "b3ce61f269a6b349f5e39448a631c759cc7ee7769e20f7879adf1196ac1bed28"), looks := false }, kinds := [], alts := [], laidByText := true, laidKinds := [.data], laidTests := true, laidLooks := .later }
def SafetyFindsUptoCardSaid : Prop := Claim7.holds Tryz.pinned (.plain (OpenSpec.upto safetyFindsSpec)) safetyFindsUptoCard
end Rows
end Go.Proofs.YtofndjhpbonpbaaGreatDoor
