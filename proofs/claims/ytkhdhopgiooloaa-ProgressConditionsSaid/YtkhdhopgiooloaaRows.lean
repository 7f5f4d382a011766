/-
  No cell of these rows narrows 'for every input' (looked for: loops, veiled, ifaces, maps, wideKeys, modest, calm, conditions, laid).
  DERIVED. THE GIVEN ROWS OF THIS SEAT. 5 by the template 'for every input the law returns true; each argument reads behind the call as it read before'; 0 by the template 'total and deterministic' (their statements: YtkhdhopgiooloaaTotals.lean).
  GIVEN WITH THE SEED: the statements are not yours to turn. If you find one false, say at which input.
  Laid BY PROGRAM, IN A SANDBOX (cutbox-rows.mjs): the forced cells as the released guide's own fill.sh prints them over the translation c1a3b4b11d1c7968… (all of the seat's roots in one cut). By AI agents, Wed Nov 11 2026. No macro, syntax, notation, axiom, sorry.
-/
import Derived.Test.YtkhdhopgiooloaaChecked
import GoSem.Claim
import GoSem.ClaimJoined
import GoSem.ClaimMapViews
import Derived.JoinedTies
import Derived.KernelRfl
namespace Go.Proofs.Ytkhdhopgiooloaa
/- THE CELL 'sum', in the pinned program and in every row, IS THE sha256 OF THE DUMP (.gsa) THAT YtkhdhopgiooloaaProg.lean LOADS. Nothing in Lean hashes anything: it is a label: what it is worth is what the hold of that sum in a sandbox is worth. -/
noncomputable def Try.pinned : Pinned := { name := "ytkhdhopgiooloaa", sum := "c1a3b4b11d1c79687378942496df3e8fcd917dcff4f51b45ca2de81aaa1db4c3", checked := Try.checked }
namespace Rows
def none {H : Type} : Left H := { results := [], args := [] }

/-- 'signallinglaw22.ProgressNext': WHATEVER THE INPUT: true; the input reads as it did. -/
def progressNextSpec : ChangeSpec := { name := "progressNext", fn := fun _ => fun
  | [d1, d2, d3, d4] => { results := [.lit (.bool true)], args := [d1, d2, d3, d4] }
  | _ => none }
def progressNextRow : OpenClaim := { program := "ytkhdhopgiooloaa", sum := "c1a3b4b11d1c79687378942496df3e8fcd917dcff4f51b45ca2de81aaa1db4c3", func := "signalling/signallinglaw22.ProgressNext", spec := "progressNext", unfollowed := true, recurses := true, apart := false }
def ProgressNextSaid : Prop := progressNextRow.holds Try.pinned (OpenSpec.ofChange progressNextSpec)

/-- ITS FALSE NEIGHBOUR: 'it returns false'. Refute it at one input. -/
def progressNextWrong : ChangeSpec := { name := "progressNext", fn := fun _ => fun
  | [d1, d2, d3, d4] => { results := [.lit (.bool false)], args := [d1, d2, d3, d4] }
  | _ => none }
def ProgressNextWrongFalsely : Prop := progressNextRow.holds Try.pinned (OpenSpec.ofChange progressNextWrong)

/-- 'signallinglaw22.ProgressHolds': WHATEVER THE INPUT: true; the input reads as it did. -/
def progressHoldsSpec : ChangeSpec := { name := "progressHolds", fn := fun _ => fun
  | [d1, d2, d3, d4] => { results := [.lit (.bool true)], args := [d1, d2, d3, d4] }
  | _ => none }
def progressHoldsRow : OpenClaim := { program := "ytkhdhopgiooloaa", sum := "c1a3b4b11d1c79687378942496df3e8fcd917dcff4f51b45ca2de81aaa1db4c3", func := "signalling/signallinglaw22.ProgressHolds", spec := "progressHolds", unfollowed := true, recurses := true, apart := false }
def ProgressHoldsSaid : Prop := progressHoldsRow.holds Try.pinned (OpenSpec.ofChange progressHoldsSpec)

/-- ITS FALSE NEIGHBOUR: 'it returns false'. Refute it at one input. -/
def progressHoldsWrong : ChangeSpec := { name := "progressHolds", fn := fun _ => fun
  | [d1, d2, d3, d4] => { results := [.lit (.bool false)], args := [d1, d2, d3, d4] }
  | _ => none }
def ProgressHoldsWrongFalsely : Prop := progressHoldsRow.holds Try.pinned (OpenSpec.ofChange progressHoldsWrong)

/-- 'signallinglaw22.ProgressShrinks': WHATEVER THE INPUT: true; the input reads as it did. -/
def progressShrinksSpec : ChangeSpec := { name := "progressShrinks", fn := fun _ => fun
  | [d1, d2, d3, d4] => { results := [.lit (.bool true)], args := [d1, d2, d3, d4] }
  | _ => none }
def progressShrinksRow : OpenClaim := { program := "ytkhdhopgiooloaa", sum := "c1a3b4b11d1c79687378942496df3e8fcd917dcff4f51b45ca2de81aaa1db4c3", func := "signalling/signallinglaw22.ProgressShrinks", spec := "progressShrinks", unfollowed := true, recurses := true, apart := false }
def ProgressShrinksSaid : Prop := progressShrinksRow.holds Try.pinned (OpenSpec.ofChange progressShrinksSpec)

/-- ITS FALSE NEIGHBOUR: 'it returns false'. Refute it at one input. -/
def progressShrinksWrong : ChangeSpec := { name := "progressShrinks", fn := fun _ => fun
  | [d1, d2, d3, d4] => { results := [.lit (.bool false)], args := [d1, d2, d3, d4] }
  | _ => none }
def ProgressShrinksWrongFalsely : Prop := progressShrinksRow.holds Try.pinned (OpenSpec.ofChange progressShrinksWrong)

/-- 'signallinglaw22.ProgressReleases': WHATEVER THE INPUT: true; the input reads as it did. -/
def progressReleasesSpec : ChangeSpec := { name := "progressReleases", fn := fun _ => fun
  | [d1, d2, d3] => { results := [.lit (.bool true)], args := [d1, d2, d3] }
  | _ => none }
def progressReleasesRow : OpenClaim := { program := "ytkhdhopgiooloaa", sum := "c1a3b4b11d1c79687378942496df3e8fcd917dcff4f51b45ca2de81aaa1db4c3", func := "signalling/signallinglaw22.ProgressReleases", spec := "progressReleases", unfollowed := true, recurses := true, apart := false }
def ProgressReleasesSaid : Prop := progressReleasesRow.holds Try.pinned (OpenSpec.ofChange progressReleasesSpec)

/-- ITS FALSE NEIGHBOUR: 'it returns false'. Refute it at one input. -/
def progressReleasesWrong : ChangeSpec := { name := "progressReleases", fn := fun _ => fun
  | [d1, d2, d3] => { results := [.lit (.bool false)], args := [d1, d2, d3] }
  | _ => none }
def ProgressReleasesWrongFalsely : Prop := progressReleasesRow.holds Try.pinned (OpenSpec.ofChange progressReleasesWrong)

/-- 'signallinglaw22.ProgressConditions': WHATEVER THE INPUT: true; the input reads as it did. -/
def progressConditionsSpec : ChangeSpec := { name := "progressConditions", fn := fun _ => fun
  | [d1, d2, d3, d4] => { results := [.lit (.bool true)], args := [d1, d2, d3, d4] }
  | _ => none }
def progressConditionsRow : OpenClaim := { program := "ytkhdhopgiooloaa", sum := "c1a3b4b11d1c79687378942496df3e8fcd917dcff4f51b45ca2de81aaa1db4c3", func := "signalling/signallinglaw22.ProgressConditions", spec := "progressConditions", unfollowed := true, recurses := true, apart := false }
def ProgressConditionsSaid : Prop := progressConditionsRow.holds Try.pinned (OpenSpec.ofChange progressConditionsSpec)

/-- ITS FALSE NEIGHBOUR: 'it returns false'. Refute it at one input. -/
def progressConditionsWrong : ChangeSpec := { name := "progressConditions", fn := fun _ => fun
  | [d1, d2, d3, d4] => { results := [.lit (.bool false)], args := [d1, d2, d3, d4] }
  | _ => none }
def ProgressConditionsWrongFalsely : Prop := progressConditionsRow.holds Try.pinned (OpenSpec.ofChange progressConditionsWrong)

/- THE SECOND FORM. 'bulk': how many values and letters a reading holds, each counted each time it is reached (what is shared counts as often as it is met; a slice's spare places count too). A statement '..UptoSaid' is the law's where the arguments, and the package variables that the reading takes, are together of bulk at most 1048576: NARROWER than '..Said'. Prove '..Said' where nothing that the law and all that it calls make is longer than what came in: it says more and counts as full. Else prove '..UptoSaid'. A law counts once. -/
mutual
def uptoBulk {H : Type} : DataW H → Nat
  | .lit (.string bytes) => bytes.length + 1
  | .lit _ => 1
  | .nil => 1
  | .ptr d => uptoBulk d + 1
  | .slice elems spare => uptoBulkAll elems + uptoBulkAll spare + 1
  | .agg parts => uptoBulkAll parts + 1
  | .iface _ d => uptoBulk d + 1
  | .map entries => uptoBulkEntries entries + 1
  | .held _ => 1
def uptoBulkAll {H : Type} : List (DataW H) → Nat
  | [] => 0
  | d :: r => uptoBulk d + uptoBulkAll r
def uptoBulkEntries {H : Type} : List (Lit × DataW H) → Nat
  | [] => 0
  | x :: r => uptoBulkEntry x + uptoBulkEntries r
def uptoBulkEntry {H : Type} : Lit × DataW H → Nat
  | (.string bytes, d) => bytes.length + uptoBulk d + 1
  | (_, d) => uptoBulk d + 1
 end
def uptoSmall : (H : Type) → List (DataW H) → Bool := fun _ ds => decide (uptoBulkAll ds ≤ 1048576)
def OpenSpec.upto (s : _root_.Go.ChangeSpec) : _root_.Go.OpenSpec := { _root_.Go.OpenSpec.ofChange s with cond := some uptoSmall }

/-- 'signallinglaw22.ProgressNext', WHERE WHAT IT READS IS OF BULK AT MOST 1048576: true; the input reads as it did. -/
def progressNextUptoRow : OpenClaim := { program := "ytkhdhopgiooloaa", sum := "c1a3b4b11d1c79687378942496df3e8fcd917dcff4f51b45ca2de81aaa1db4c3", func := "signalling/signallinglaw22.ProgressNext", spec := "progressNext", unfollowed := true, recurses := true, apart := false, narrowed := true }
def ProgressNextUptoSaid : Prop := progressNextUptoRow.holds Try.pinned (OpenSpec.upto progressNextSpec)

/-- 'signallinglaw22.ProgressHolds', WHERE WHAT IT READS IS OF BULK AT MOST 1048576: true; the input reads as it did. -/
def progressHoldsUptoRow : OpenClaim := { program := "ytkhdhopgiooloaa", sum := "c1a3b4b11d1c79687378942496df3e8fcd917dcff4f51b45ca2de81aaa1db4c3", func := "signalling/signallinglaw22.ProgressHolds", spec := "progressHolds", unfollowed := true, recurses := true, apart := false, narrowed := true }
def ProgressHoldsUptoSaid : Prop := progressHoldsUptoRow.holds Try.pinned (OpenSpec.upto progressHoldsSpec)

/-- 'signallinglaw22.ProgressShrinks', WHERE WHAT IT READS IS OF BULK AT MOST 1048576: true; the input reads as it did. -/
def progressShrinksUptoRow : OpenClaim := { program := "ytkhdhopgiooloaa", sum := "c1a3b4b11d1c79687378942496df3e8fcd917dcff4f51b45ca2de81aaa1db4c3", func := "signalling/signallinglaw22.ProgressShrinks", spec := "progressShrinks", unfollowed := true, recurses := true, apart := false, narrowed := true }
def ProgressShrinksUptoSaid : Prop := progressShrinksUptoRow.holds Try.pinned (OpenSpec.upto progressShrinksSpec)

/-- 'signallinglaw22.ProgressReleases', WHERE WHAT IT READS IS OF BULK AT MOST 1048576: true; the input reads as it did. -/
def progressReleasesUptoRow : OpenClaim := { program := "ytkhdhopgiooloaa", sum := "c1a3b4b11d1c79687378942496df3e8fcd917dcff4f51b45ca2de81aaa1db4c3", func := "signalling/signallinglaw22.ProgressReleases", spec := "progressReleases", unfollowed := true, recurses := true, apart := false, narrowed := true }
def ProgressReleasesUptoSaid : Prop := progressReleasesUptoRow.holds Try.pinned (OpenSpec.upto progressReleasesSpec)

/-- 'signallinglaw22.ProgressConditions', WHERE WHAT IT READS IS OF BULK AT MOST 1048576: true; the input reads as it did. -/
def progressConditionsUptoRow : OpenClaim := { program := "ytkhdhopgiooloaa", sum := "c1a3b4b11d1c79687378942496df3e8fcd917dcff4f51b45ca2de81aaa1db4c3", func := "signalling/signallinglaw22.ProgressConditions", spec := "progressConditions", unfollowed := true, recurses := true, apart := false, narrowed := true }
def ProgressConditionsUptoSaid : Prop := progressConditionsUptoRow.holds Try.pinned (OpenSpec.upto progressConditionsSpec)

end Rows
end Go.Proofs.Ytkhdhopgiooloaa
