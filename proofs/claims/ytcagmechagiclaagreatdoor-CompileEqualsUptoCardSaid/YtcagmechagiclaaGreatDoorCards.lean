/-
  DERIVED. GIVEN WITH THE SEED: THE CARDS: each row of YtcagmechagiclaaGreatDoorRows.lean that lists a variable, with what it lists TIED to the program's text (the seventh form; the later family's looks); each row that meets fmt, with fmt's text TOLD by the authors' own Lean function (tested against real Go, not proved from fmt's source: count such statements apart). THE CARD IS WHAT COUNTS. Prove the row's statement (the work); the ties are given (YtcagmechagiclaaGreatDoorTie.lean); close each card by the builder's one call (the guide's Derived/Test/ToyasCard.lean, 'card_holds'). Laid BY PROGRAM, IN A SANDBOX (cutbox-door.mjs). By AI agents, Wed Nov 11 2026. No macro, syntax, notation, axiom, sorry.
-/
import Derived.Test.YtcagmechagiclaaGreatDoorRows
import GoSem.ClaimSeven
namespace Go.Proofs.YtcagmechagiclaaGreatDoor
namespace Rows

/-- THE TIED CARD OF 'signallinglaw24.CompilePrograms'. -/
def compileProgramsCard : Claim7 := { stood := { row := compileProgramsRow, standIns := [], harness := (true, "cfecb18cfc4b397e83da2599e9ecc1c2acbed360a82df543d018dbc40f7e083b"), looks := true }, kinds := [], alts := [], laidByText := true, laidKinds := [.data, .data, .data], laidTests := true, laidLooks := .later }
def CompileProgramsCardSaid : Prop := Claim7.holds Tryz.pinned (.plain (OpenSpec.ofChange compileProgramsSpec)) compileProgramsCard

/-- THE TIED CARD OF 'signallinglaw24.CompileInputs'. -/
def compileInputsCard : Claim7 := { stood := { row := compileInputsRow, standIns := [], harness := (true, "cfecb18cfc4b397e83da2599e9ecc1c2acbed360a82df543d018dbc40f7e083b"), looks := true }, kinds := [], alts := [], laidByText := true, laidKinds := [.data, .data, .data], laidTests := true, laidLooks := .later }
def CompileInputsCardSaid : Prop := Claim7.holds Tryz.pinned (.plain (OpenSpec.ofChange compileInputsSpec)) compileInputsCard

/-- THE TIED CARD OF 'signallinglaw24.CompileStates'. -/
def compileStatesCard : Claim7 := { stood := { row := compileStatesRow, standIns := [], harness := (true, "cfecb18cfc4b397e83da2599e9ecc1c2acbed360a82df543d018dbc40f7e083b"), looks := true }, kinds := [], alts := [], laidByText := true, laidKinds := [.data, .data, .data], laidTests := true, laidLooks := .later }
def CompileStatesCardSaid : Prop := Claim7.holds Tryz.pinned (.plain (OpenSpec.ofChange compileStatesSpec)) compileStatesCard

/-- THE TIED CARD OF 'signallinglaw24.CompileHalts'. -/
def compileHaltsCard : Claim7 := { stood := { row := compileHaltsRow, standIns := [], harness := (true, "cfecb18cfc4b397e83da2599e9ecc1c2acbed360a82df543d018dbc40f7e083b"), looks := true }, kinds := [], alts := [], laidByText := true, laidKinds := [.data, .data, .data], laidTests := true, laidLooks := .later }
def CompileHaltsCardSaid : Prop := Claim7.holds Tryz.pinned (.plain (OpenSpec.ofChange compileHaltsSpec)) compileHaltsCard

/-- THE TIED CARD OF 'signallinglaw24.CompileBegins'. -/
def compileBeginsCard : Claim7 := { stood := { row := compileBeginsRow, standIns := [], harness := (true, "cfecb18cfc4b397e83da2599e9ecc1c2acbed360a82df543d018dbc40f7e083b"), looks := true }, kinds := [], alts := [], laidByText := true, laidKinds := [.data, .data, .data], laidTests := true, laidLooks := .later }
def CompileBeginsCardSaid : Prop := Claim7.holds Tryz.pinned (.plain (OpenSpec.ofChange compileBeginsSpec)) compileBeginsCard

/-- THE TIED CARD OF 'signallinglaw24.CompileEquals'. -/
def compileEqualsCard : Claim7 := { stood := { row := compileEqualsRow, standIns := [], harness := (true, "cfecb18cfc4b397e83da2599e9ecc1c2acbed360a82df543d018dbc40f7e083b"), looks := true }, kinds := [], alts := [], laidByText := true, laidKinds := [.data, .data, .data], laidTests := true, laidLooks := .later }
def CompileEqualsCardSaid : Prop := Claim7.holds Tryz.pinned (.plain (OpenSpec.ofChange compileEqualsSpec)) compileEqualsCard

/-- THE SECOND FORM's CARD OF 'signallinglaw24.CompilePrograms'. -/
def compileProgramsUptoCard : Claim7 := { stood := { row := compileProgramsUptoRow, standIns := [], harness := (true, "cfecb18cfc4b397e83da2599e9ecc1c2acbed360a82df543d018dbc40f7e083b"), looks := true }, kinds := [], alts := [], laidByText := true, laidKinds := [.data, .data, .data], laidTests := true, laidLooks := .later }
def CompileProgramsUptoCardSaid : Prop := Claim7.holds Tryz.pinned (.plain (OpenSpec.upto compileProgramsSpec)) compileProgramsUptoCard

/-- THE SECOND FORM's CARD OF 'signallinglaw24.CompileInputs'. -/
def compileInputsUptoCard : Claim7 := { stood := { row := compileInputsUptoRow, standIns := [], harness := (true, "cfecb18cfc4b397e83da2599e9ecc1c2acbed360a82df543d018dbc40f7e083b"), looks := true }, kinds := [], alts := [], laidByText := true, laidKinds := [.data, .data, .data], laidTests := true, laidLooks := .later }
def CompileInputsUptoCardSaid : Prop := Claim7.holds Tryz.pinned (.plain (OpenSpec.upto compileInputsSpec)) compileInputsUptoCard

/-- THE SECOND FORM's CARD OF 'signallinglaw24.CompileStates'. -/
def compileStatesUptoCard : Claim7 := { stood := { row := compileStatesUptoRow, standIns := [], harness := (true, "cfecb18cfc4b397e83da2599e9ecc1c2acbed360a82df543d018dbc40f7e083b"), looks := true }, kinds := [], alts := [], laidByText := true, laidKinds := [.data, .data, .data], laidTests := true, laidLooks := .later }
def CompileStatesUptoCardSaid : Prop := Claim7.holds Tryz.pinned (.plain (OpenSpec.upto compileStatesSpec)) compileStatesUptoCard

/-- THE SECOND FORM's CARD OF 'signallinglaw24.CompileHalts'. -/
def compileHaltsUptoCard : Claim7 := { stood := { row := compileHaltsUptoRow, standIns := [], harness := (true, "cfecb18cfc4b397e83da2599e9ecc1c2acbed360a82df543d018dbc40f7e083b"), looks := true }, kinds := [], alts := [], laidByText := true, laidKinds := [.data, .data, .data], laidTests := true, laidLooks := .later }
def CompileHaltsUptoCardSaid : Prop := Claim7.holds Tryz.pinned (.plain (OpenSpec.upto compileHaltsSpec)) compileHaltsUptoCard

/-- THE SECOND FORM's CARD OF 'signallinglaw24.CompileBegins'. -/
def compileBeginsUptoCard : Claim7 := { stood := { row := compileBeginsUptoRow, standIns := [], harness := (true, "cfecb18cfc4b397e83da2599e9ecc1c2acbed360a82df543d018dbc40f7e083b"), looks := true }, kinds := [], alts := [], laidByText := true, laidKinds := [.data, .data, .data], laidTests := true, laidLooks := .later }
def CompileBeginsUptoCardSaid : Prop := Claim7.holds Tryz.pinned (.plain (OpenSpec.upto compileBeginsSpec)) compileBeginsUptoCard

/-- THE SECOND FORM's CARD OF 'signallinglaw24.CompileEquals'. -/
def compileEqualsUptoCard : Claim7 := { stood := { row := compileEqualsUptoRow, standIns := [], harness := (true, "cfecb18cfc4b397e83da2599e9ecc1c2acbed360a82df543d018dbc40f7e083b"), looks := true }, kinds := [], alts := [], laidByText := true, laidKinds := [.data, .data, .data], laidTests := true, laidLooks := .later }
def CompileEqualsUptoCardSaid : Prop := Claim7.holds Tryz.pinned (.plain (OpenSpec.upto compileEqualsSpec)) compileEqualsUptoCard
end Rows
end Go.Proofs.YtcagmechagiclaaGreatDoor
