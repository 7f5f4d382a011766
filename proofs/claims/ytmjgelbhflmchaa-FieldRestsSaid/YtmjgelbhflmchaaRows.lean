/-
  No cell of these rows narrows 'for every input' (looked for: loops, veiled, ifaces, maps, wideKeys, modest, calm, conditions, laid).
  DERIVED. THE GIVEN ROWS OF THIS SEAT. 5 by the template 'for every input the law returns true; each argument reads behind the call as it read before'; 0 by the template 'total and deterministic' (their statements: YtmjgelbhflmchaaTotals.lean).
  GIVEN WITH THE SEED: the statements are not yours to turn. If you find one false, say at which input.
  Laid BY PROGRAM, IN A SANDBOX (cutbox-rows.mjs): the forced cells as the released guide's own fill.sh prints them over the translation d2874b061b5cd3db… (all of the seat's roots in one cut). By AI agents, Wed Nov 11 2026. No macro, syntax, notation, axiom, sorry.
-/
import Derived.Test.YtmjgelbhflmchaaChecked
import GoSem.Claim
import GoSem.ClaimJoined
import GoSem.ClaimMapViews
import Derived.JoinedTies
import Derived.KernelRfl
namespace Go.Proofs.Ytmjgelbhflmchaa
/- THE CELL 'sum', in the pinned program and in every row, IS THE sha256 OF THE DUMP (.gsa) THAT YtmjgelbhflmchaaProg.lean LOADS. Nothing in Lean hashes anything: it is a label: what it is worth is what the hold of that sum in a sandbox is worth. -/
noncomputable def Try.pinned : Pinned := { name := "ytmjgelbhflmchaa", sum := "d2874b061b5cd3db7758e655cda6a01c049a74825851fba1d9155d782f54a96a", checked := Try.checked }
namespace Rows
def none {H : Type} : Left H := { results := [], args := [] }

/-- 'signallinglaw27.FieldMoves': WHATEVER THE INPUT: true; the input reads as it did. -/
def fieldMovesSpec : ChangeSpec := { name := "fieldMoves", fn := fun _ => fun
  | [d1, d2] => { results := [.lit (.bool true)], args := [d1, d2] }
  | _ => none }
def fieldMovesRow : OpenClaim := { program := "ytmjgelbhflmchaa", sum := "d2874b061b5cd3db7758e655cda6a01c049a74825851fba1d9155d782f54a96a", func := "signalling/signallinglaw27.FieldMoves", spec := "fieldMoves", apart := false }
def FieldMovesSaid : Prop := fieldMovesRow.holds Try.pinned (OpenSpec.ofChange fieldMovesSpec)

/-- ITS FALSE NEIGHBOUR: 'it returns false'. Refute it at one input. -/
def fieldMovesWrong : ChangeSpec := { name := "fieldMoves", fn := fun _ => fun
  | [d1, d2] => { results := [.lit (.bool false)], args := [d1, d2] }
  | _ => none }
def FieldMovesWrongFalsely : Prop := fieldMovesRow.holds Try.pinned (OpenSpec.ofChange fieldMovesWrong)

/-- 'signallinglaw27.FieldPlaces': WHATEVER THE INPUT: true; the input reads as it did. -/
def fieldPlacesSpec : ChangeSpec := { name := "fieldPlaces", fn := fun _ => fun
  | [d1, d2, d3] => { results := [.lit (.bool true)], args := [d1, d2, d3] }
  | _ => none }
def fieldPlacesRow : OpenClaim := { program := "ytmjgelbhflmchaa", sum := "d2874b061b5cd3db7758e655cda6a01c049a74825851fba1d9155d782f54a96a", func := "signalling/signallinglaw27.FieldPlaces", spec := "fieldPlaces", apart := false }
def FieldPlacesSaid : Prop := fieldPlacesRow.holds Try.pinned (OpenSpec.ofChange fieldPlacesSpec)

/-- ITS FALSE NEIGHBOUR: 'it returns false'. Refute it at one input. -/
def fieldPlacesWrong : ChangeSpec := { name := "fieldPlaces", fn := fun _ => fun
  | [d1, d2, d3] => { results := [.lit (.bool false)], args := [d1, d2, d3] }
  | _ => none }
def FieldPlacesWrongFalsely : Prop := fieldPlacesRow.holds Try.pinned (OpenSpec.ofChange fieldPlacesWrong)

/-- 'signallinglaw27.FieldArrives': WHATEVER THE INPUT: true; the input reads as it did. -/
def fieldArrivesSpec : ChangeSpec := { name := "fieldArrives", fn := fun _ => fun
  | [d1, d2, d3] => { results := [.lit (.bool true)], args := [d1, d2, d3] }
  | _ => none }
def fieldArrivesRow : OpenClaim := { program := "ytmjgelbhflmchaa", sum := "d2874b061b5cd3db7758e655cda6a01c049a74825851fba1d9155d782f54a96a", func := "signalling/signallinglaw27.FieldArrives", spec := "fieldArrives", apart := false }
def FieldArrivesSaid : Prop := fieldArrivesRow.holds Try.pinned (OpenSpec.ofChange fieldArrivesSpec)

/-- ITS FALSE NEIGHBOUR: 'it returns false'. Refute it at one input. -/
def fieldArrivesWrong : ChangeSpec := { name := "fieldArrives", fn := fun _ => fun
  | [d1, d2, d3] => { results := [.lit (.bool false)], args := [d1, d2, d3] }
  | _ => none }
def FieldArrivesWrongFalsely : Prop := fieldArrivesRow.holds Try.pinned (OpenSpec.ofChange fieldArrivesWrong)

/-- 'signallinglaw27.FieldTakesTime': WHATEVER THE INPUT: true; the input reads as it did. -/
def fieldTakesTimeSpec : ChangeSpec := { name := "fieldTakesTime", fn := fun _ => fun
  | [d1, d2, d3] => { results := [.lit (.bool true)], args := [d1, d2, d3] }
  | _ => none }
def fieldTakesTimeRow : OpenClaim := { program := "ytmjgelbhflmchaa", sum := "d2874b061b5cd3db7758e655cda6a01c049a74825851fba1d9155d782f54a96a", func := "signalling/signallinglaw27.FieldTakesTime", spec := "fieldTakesTime", apart := false }
def FieldTakesTimeSaid : Prop := fieldTakesTimeRow.holds Try.pinned (OpenSpec.ofChange fieldTakesTimeSpec)

/-- ITS FALSE NEIGHBOUR: 'it returns false'. Refute it at one input. -/
def fieldTakesTimeWrong : ChangeSpec := { name := "fieldTakesTime", fn := fun _ => fun
  | [d1, d2, d3] => { results := [.lit (.bool false)], args := [d1, d2, d3] }
  | _ => none }
def FieldTakesTimeWrongFalsely : Prop := fieldTakesTimeRow.holds Try.pinned (OpenSpec.ofChange fieldTakesTimeWrong)

/-- 'signallinglaw27.FieldRests': WHATEVER THE INPUT: true; the input reads as it did. -/
def fieldRestsSpec : ChangeSpec := { name := "fieldRests", fn := fun _ => fun
  | [d] => { results := [.lit (.bool true)], args := [d] }
  | _ => none }
def fieldRestsRow : OpenClaim := { program := "ytmjgelbhflmchaa", sum := "d2874b061b5cd3db7758e655cda6a01c049a74825851fba1d9155d782f54a96a", func := "signalling/signallinglaw27.FieldRests", spec := "fieldRests", apart := false }
def FieldRestsSaid : Prop := fieldRestsRow.holds Try.pinned (OpenSpec.ofChange fieldRestsSpec)

/-- ITS FALSE NEIGHBOUR: 'it returns false'. Refute it at one input. -/
def fieldRestsWrong : ChangeSpec := { name := "fieldRests", fn := fun _ => fun
  | [d] => { results := [.lit (.bool false)], args := [d] }
  | _ => none }
def FieldRestsWrongFalsely : Prop := fieldRestsRow.holds Try.pinned (OpenSpec.ofChange fieldRestsWrong)

/- THE SECOND FORM. 'bulk': how many values and letters a reading holds, each counted each time it is reached (what is shared counts as often as it is met; a slice's spare places count too). A statement '..UptoSaid' is the law's where the arguments, and the package variables that the reading takes, are together of bulk at most 1048576: NARROWER than '..Said'. Prove '..Said' where nothing that the law and all that it calls make is longer than what came in: it says more and counts as full. Else prove '..UptoSaid'. A law counts once. -/
mutual
def uptoBulk {H : Type} : DataW H → Nat
  | .lit (.string bytes) => bytes.length + 1
  | .lit _ => 1
  | .nil => 1
  | .ptr d => uptoBulk d + 1
  | .slice elems spare => uptoBulkAll elems + uptoBulkAll spare + 1
  | .agg parts => uptoBulkAll parts + 1
  | .iface _ d => uptoBulk d + 1
  | .map entries => uptoBulkEntries entries + 1
  | .held _ => 1
def uptoBulkAll {H : Type} : List (DataW H) → Nat
  | [] => 0
  | d :: r => uptoBulk d + uptoBulkAll r
def uptoBulkEntries {H : Type} : List (Lit × DataW H) → Nat
  | [] => 0
  | x :: r => uptoBulkEntry x + uptoBulkEntries r
def uptoBulkEntry {H : Type} : Lit × DataW H → Nat
  | (.string bytes, d) => bytes.length + uptoBulk d + 1
  | (_, d) => uptoBulk d + 1
 end
def uptoSmall : (H : Type) → List (DataW H) → Bool := fun _ ds => decide (uptoBulkAll ds ≤ 1048576)
def OpenSpec.upto (s : _root_.Go.ChangeSpec) : _root_.Go.OpenSpec := { _root_.Go.OpenSpec.ofChange s with cond := some uptoSmall }

/-- 'signallinglaw27.FieldMoves', WHERE WHAT IT READS IS OF BULK AT MOST 1048576: true; the input reads as it did. -/
def fieldMovesUptoRow : OpenClaim := { program := "ytmjgelbhflmchaa", sum := "d2874b061b5cd3db7758e655cda6a01c049a74825851fba1d9155d782f54a96a", func := "signalling/signallinglaw27.FieldMoves", spec := "fieldMoves", apart := false, narrowed := true }
def FieldMovesUptoSaid : Prop := fieldMovesUptoRow.holds Try.pinned (OpenSpec.upto fieldMovesSpec)

/-- 'signallinglaw27.FieldPlaces', WHERE WHAT IT READS IS OF BULK AT MOST 1048576: true; the input reads as it did. -/
def fieldPlacesUptoRow : OpenClaim := { program := "ytmjgelbhflmchaa", sum := "d2874b061b5cd3db7758e655cda6a01c049a74825851fba1d9155d782f54a96a", func := "signalling/signallinglaw27.FieldPlaces", spec := "fieldPlaces", apart := false, narrowed := true }
def FieldPlacesUptoSaid : Prop := fieldPlacesUptoRow.holds Try.pinned (OpenSpec.upto fieldPlacesSpec)

/-- 'signallinglaw27.FieldArrives', WHERE WHAT IT READS IS OF BULK AT MOST 1048576: true; the input reads as it did. -/
def fieldArrivesUptoRow : OpenClaim := { program := "ytmjgelbhflmchaa", sum := "d2874b061b5cd3db7758e655cda6a01c049a74825851fba1d9155d782f54a96a", func := "signalling/signallinglaw27.FieldArrives", spec := "fieldArrives", apart := false, narrowed := true }
def FieldArrivesUptoSaid : Prop := fieldArrivesUptoRow.holds Try.pinned (OpenSpec.upto fieldArrivesSpec)

/-- 'signallinglaw27.FieldTakesTime', WHERE WHAT IT READS IS OF BULK AT MOST 1048576: true; the input reads as it did. -/
def fieldTakesTimeUptoRow : OpenClaim := { program := "ytmjgelbhflmchaa", sum := "d2874b061b5cd3db7758e655cda6a01c049a74825851fba1d9155d782f54a96a", func := "signalling/signallinglaw27.FieldTakesTime", spec := "fieldTakesTime", apart := false, narrowed := true }
def FieldTakesTimeUptoSaid : Prop := fieldTakesTimeUptoRow.holds Try.pinned (OpenSpec.upto fieldTakesTimeSpec)

/-- 'signallinglaw27.FieldRests', WHERE WHAT IT READS IS OF BULK AT MOST 1048576: true; the input reads as it did. -/
def fieldRestsUptoRow : OpenClaim := { program := "ytmjgelbhflmchaa", sum := "d2874b061b5cd3db7758e655cda6a01c049a74825851fba1d9155d782f54a96a", func := "signalling/signallinglaw27.FieldRests", spec := "fieldRests", apart := false, narrowed := true }
def FieldRestsUptoSaid : Prop := fieldRestsUptoRow.holds Try.pinned (OpenSpec.upto fieldRestsSpec)

end Rows
end Go.Proofs.Ytmjgelbhflmchaa
