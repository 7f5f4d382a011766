/-
  NARROWER THAN 'FOR EVERY INPUT', by the rows' own cells (each row's printed sentence says how): SafetyChecks: laid · SafetyApart: laid · SafetyFinds: laid.
  DERIVED. THE GIVEN ROWS OF THIS SEAT. 3 by the template 'for every input the law returns true; each argument reads behind the call as it read before'; 0 by the template 'total and deterministic' (their statements: YtofndjhpbonpbaaGreatDoorTotals.lean).
  GIVEN WITH THE SEED: the statements are not yours to turn. If you find one false, say at which input.
  Laid BY PROGRAM, IN A SANDBOX (cutbox-rows.mjs): the forced cells as the released guide's own fill.sh prints them over the translation 056417159e41b372… (all of the seat's roots in one cut). By AI agents, Wed Nov 11 2026. No macro, syntax, notation, axiom, sorry.
-/
import Derived.Test.YtofndjhpbonpbaaGreatDoorChecked
import GoSem.Claim
import GoSem.ClaimJoined
import GoSem.ClaimMapViews
import Derived.JoinedTies
import Derived.KernelRfl
namespace Go.Proofs.YtofndjhpbonpbaaGreatDoor
/- THE CELL 'sum', in the pinned program and in every row, IS THE sha256 OF THE DUMP (.gsa) THAT YtofndjhpbonpbaaGreatDoorProg.lean LOADS. Nothing in Lean hashes anything: it is a label: what it is worth is what the hold of that sum in a sandbox is worth. -/
noncomputable def Tryz.pinned : Pinned := { name := "ytofndjhpbonpbaagreatdoor", sum := "056417159e41b372ce1669df314409980fdef75b9b0d3f486810f2b2878e4268", checked := Tryz.checked }
namespace Rows
def none {H : Type} : Left H := { results := [], args := [] }

/- WHAT THE LISTED PACKAGE-LEVEL VARIABLES READ AS WHEN THE CALL BEGINS. Each datum BY PROGRAM (the guide's laid-datum.mjs) off the statement by which the dump's own 'gosem.cut.vars' lays the variable. In a bare row this is a premise. The card (YtofndjhpbonpbaaGreatDoorCards.lean) ties it to the program's text. -/
def laid_signalling_rail_passages {H : Type} : DataW H := .agg [.agg [.lit (.int .i64 1), .lit (.int .i64 0), .lit (.int .i64 1), .lit (.int .i64 0)], .agg [.lit (.int .i64 1), .lit (.int .i64 1), .lit (.int .i64 0), .lit (.int .i64 0)], .agg [.lit (.int .i64 2), .lit (.int .i64 0), .lit (.int .i64 1), .lit (.int .i64 1)], .agg [.lit (.int .i64 2), .lit (.int .i64 0), .lit (.int .i64 2), .lit (.int .i64 2)], .agg [.lit (.int .i64 2), .lit (.int .i64 1), .lit (.int .i64 0), .lit (.int .i64 1)], .agg [.lit (.int .i64 2), .lit (.int .i64 2), .lit (.int .i64 0), .lit (.int .i64 2)], .agg [.lit (.int .i64 3), .lit (.int .i64 0), .lit (.int .i64 1), .lit (.int .i64 0)], .agg [.lit (.int .i64 3), .lit (.int .i64 1), .lit (.int .i64 0), .lit (.int .i64 0)], .agg [.lit (.int .i64 3), .lit (.int .i64 2), .lit (.int .i64 3), .lit (.int .i64 0)], .agg [.lit (.int .i64 3), .lit (.int .i64 3), .lit (.int .i64 2), .lit (.int .i64 0)]]

/-- 'signallinglaw58.SafetyChecks': WHATEVER THE INPUT: true; the input reads as it did. -/
def safetyChecksSpec : ChangeSpec := { name := "safetyChecks", fn := fun _ => fun
  | [d] => { results := [.lit (.bool true)], args := [d] }
  | _ => none }
def safetyChecksRow : OpenClaim := { program := "ytofndjhpbonpbaagreatdoor", sum := "056417159e41b372ce1669df314409980fdef75b9b0d3f486810f2b2878e4268", func := "signalling/signallinglaw58.SafetyChecks", spec := "safetyChecks", unfollowed := true, recurses := true, named := ["signalling/rail.passages"], apart := false, laid := [("signalling/rail.passages", laid_signalling_rail_passages)] }
def SafetyChecksSaid : Prop := safetyChecksRow.holds Tryz.pinned (OpenSpec.ofChange safetyChecksSpec)

/-- ITS FALSE NEIGHBOUR: 'it returns false'. Refute it at one input. -/
def safetyChecksWrong : ChangeSpec := { name := "safetyChecks", fn := fun _ => fun
  | [d] => { results := [.lit (.bool false)], args := [d] }
  | _ => none }
def SafetyChecksWrongFalsely : Prop := safetyChecksRow.holds Tryz.pinned (OpenSpec.ofChange safetyChecksWrong)

/-- 'signallinglaw58.SafetyApart': WHATEVER THE INPUT: true; the input reads as it did. -/
def safetyApartSpec : ChangeSpec := { name := "safetyApart", fn := fun _ => fun
  | [d] => { results := [.lit (.bool true)], args := [d] }
  | _ => none }
def safetyApartRow : OpenClaim := { program := "ytofndjhpbonpbaagreatdoor", sum := "056417159e41b372ce1669df314409980fdef75b9b0d3f486810f2b2878e4268", func := "signalling/signallinglaw58.SafetyApart", spec := "safetyApart", unfollowed := true, recurses := true, named := ["signalling/rail.passages"], apart := false, laid := [("signalling/rail.passages", laid_signalling_rail_passages)] }
def SafetyApartSaid : Prop := safetyApartRow.holds Tryz.pinned (OpenSpec.ofChange safetyApartSpec)

/-- ITS FALSE NEIGHBOUR: 'it returns false'. Refute it at one input. -/
def safetyApartWrong : ChangeSpec := { name := "safetyApart", fn := fun _ => fun
  | [d] => { results := [.lit (.bool false)], args := [d] }
  | _ => none }
def SafetyApartWrongFalsely : Prop := safetyApartRow.holds Tryz.pinned (OpenSpec.ofChange safetyApartWrong)

/-- 'signallinglaw58.SafetyFinds': WHATEVER THE INPUT: true; the input reads as it did. -/
def safetyFindsSpec : ChangeSpec := { name := "safetyFinds", fn := fun _ => fun
  | [d1, d2] => { results := [.lit (.bool true)], args := [d1, d2] }
  | _ => none }
def safetyFindsRow : OpenClaim := { program := "ytofndjhpbonpbaagreatdoor", sum := "056417159e41b372ce1669df314409980fdef75b9b0d3f486810f2b2878e4268", func := "signalling/signallinglaw58.SafetyFinds", spec := "safetyFinds", unfollowed := true, recurses := true, named := ["signalling/rail.passages"], apart := false, laid := [("signalling/rail.passages", laid_signalling_rail_passages)] }
def SafetyFindsSaid : Prop := safetyFindsRow.holds Tryz.pinned (OpenSpec.ofChange safetyFindsSpec)

/-- ITS FALSE NEIGHBOUR: 'it returns false'. Refute it at one input. -/
def safetyFindsWrong : ChangeSpec := { name := "safetyFinds", fn := fun _ => fun
  | [d1, d2] => { results := [.lit (.bool false)], args := [d1, d2] }
  | _ => none }
def SafetyFindsWrongFalsely : Prop := safetyFindsRow.holds Tryz.pinned (OpenSpec.ofChange safetyFindsWrong)

/- THE SECOND FORM. 'bulk': how many values and letters a reading holds, each counted each time it is reached (what is shared counts as often as it is met; a slice's spare places count too). A statement '..UptoSaid' is the law's where the arguments, and the package variables that the reading takes, are together of bulk at most 1048576: NARROWER than '..Said'. Prove '..Said' where nothing that the law and all that it calls make is longer than what came in: it says more and counts as full. Else prove '..UptoSaid'. A law counts once. -/
mutual
def uptoBulk {H : Type} : DataW H → Nat
  | .lit (.string bytes) => bytes.length + 1
  | .lit _ => 1
  | .nil => 1
  | .ptr d => uptoBulk d + 1
  | .slice elems spare => uptoBulkAll elems + uptoBulkAll spare + 1
  | .agg parts => uptoBulkAll parts + 1
  | .iface _ d => uptoBulk d + 1
  | .map entries => uptoBulkEntries entries + 1
  | .held _ => 1
def uptoBulkAll {H : Type} : List (DataW H) → Nat
  | [] => 0
  | d :: r => uptoBulk d + uptoBulkAll r
def uptoBulkEntries {H : Type} : List (Lit × DataW H) → Nat
  | [] => 0
  | x :: r => uptoBulkEntry x + uptoBulkEntries r
def uptoBulkEntry {H : Type} : Lit × DataW H → Nat
  | (.string bytes, d) => bytes.length + uptoBulk d + 1
  | (_, d) => uptoBulk d + 1
 end
def uptoSmall : (H : Type) → List (DataW H) → Bool := fun _ ds => decide (uptoBulkAll ds ≤ 1048576)
def OpenSpec.upto (s : _root_.Go.ChangeSpec) : _root_.Go.OpenSpec := { _root_.Go.OpenSpec.ofChange s with cond := some uptoSmall }

/-- 'signallinglaw58.SafetyChecks', WHERE WHAT IT READS IS OF BULK AT MOST 1048576: true; the input reads as it did. -/
def safetyChecksUptoRow : OpenClaim := { program := "ytofndjhpbonpbaagreatdoor", sum := "056417159e41b372ce1669df314409980fdef75b9b0d3f486810f2b2878e4268", func := "signalling/signallinglaw58.SafetyChecks", spec := "safetyChecks", unfollowed := true, recurses := true, named := ["signalling/rail.passages"], apart := false, laid := [("signalling/rail.passages", laid_signalling_rail_passages)], narrowed := true }
def SafetyChecksUptoSaid : Prop := safetyChecksUptoRow.holds Tryz.pinned (OpenSpec.upto safetyChecksSpec)

/-- 'signallinglaw58.SafetyApart', WHERE WHAT IT READS IS OF BULK AT MOST 1048576: true; the input reads as it did. -/
def safetyApartUptoRow : OpenClaim := { program := "ytofndjhpbonpbaagreatdoor", sum := "056417159e41b372ce1669df314409980fdef75b9b0d3f486810f2b2878e4268", func := "signalling/signallinglaw58.SafetyApart", spec := "safetyApart", unfollowed := true, recurses := true, named := ["signalling/rail.passages"], apart := false, laid := [("signalling/rail.passages", laid_signalling_rail_passages)], narrowed := true }
def SafetyApartUptoSaid : Prop := safetyApartUptoRow.holds Tryz.pinned (OpenSpec.upto safetyApartSpec)

/-- 'signallinglaw58.SafetyFinds', WHERE WHAT IT READS IS OF BULK AT MOST 1048576: true; the input reads as it did. -/
def safetyFindsUptoRow : OpenClaim := { program := "ytofndjhpbonpbaagreatdoor", sum := "056417159e41b372ce1669df314409980fdef75b9b0d3f486810f2b2878e4268", func := "signalling/signallinglaw58.SafetyFinds", spec := "safetyFinds", unfollowed := true, recurses := true, named := ["signalling/rail.passages"], apart := false, laid := [("signalling/rail.passages", laid_signalling_rail_passages)], narrowed := true }
def SafetyFindsUptoSaid : Prop := safetyFindsUptoRow.holds Tryz.pinned (OpenSpec.upto safetyFindsSpec)

end Rows
end Go.Proofs.YtofndjhpbonpbaaGreatDoor
