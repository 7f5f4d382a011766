/-
  No cell of these rows narrows 'for every input' (looked for: loops, veiled, ifaces, maps, wideKeys, modest, calm, conditions, laid).
  DERIVED. THE GIVEN ROWS OF THIS SEAT. 6 by the template 'for every input the law returns true; each argument reads behind the call as it read before'; 0 by the template 'total and deterministic' (their statements: YthkgkolgdkcngaaTotals.lean).
  GIVEN WITH THE SEED: the statements are not yours to turn. If you find one false, say at which input.
  Laid BY PROGRAM, IN A SANDBOX (cutbox-rows.mjs): the forced cells as the released guide's own fill.sh prints them over the translation b66fa9eae9b225f0… (all of the seat's roots in one cut). By AI agents, Wed Nov 11 2026. No macro, syntax, notation, axiom, sorry.
-/
import Derived.Test.YthkgkolgdkcngaaChecked
import GoSem.Claim
import GoSem.ClaimJoined
import GoSem.ClaimMapViews
import Derived.JoinedTies
import Derived.KernelRfl
namespace Go.Proofs.Ythkgkolgdkcngaa
/- THE CELL 'sum', in the pinned program and in every row, IS THE sha256 OF THE DUMP (.gsa) THAT YthkgkolgdkcngaaProg.lean LOADS. Nothing in Lean hashes anything: it is a label: what it is worth is what the hold of that sum in a sandbox is worth. -/
noncomputable def Try.pinned : Pinned := { name := "ythkgkolgdkcngaa", sum := "b66fa9eae9b225f01bec1fc697ca3e9d329fd2d8f3621ef50ee9363096a4a983", checked := Try.checked }
namespace Rows
def none {H : Type} : Left H := { results := [], args := [] }

/-- 'signallinglaw42.PossessionTakes': WHATEVER THE INPUT: true; the input reads as it did. -/
def possessionTakesSpec : ChangeSpec := { name := "possessionTakes", fn := fun _ => fun
  | [d1, d2, d3, d4] => { results := [.lit (.bool true)], args := [d1, d2, d3, d4] }
  | _ => none }
def possessionTakesRow : OpenClaim := { program := "ythkgkolgdkcngaa", sum := "b66fa9eae9b225f01bec1fc697ca3e9d329fd2d8f3621ef50ee9363096a4a983", func := "signalling/signallinglaw42.PossessionTakes", spec := "possessionTakes", unfollowed := true, recurses := true, apart := false }
def PossessionTakesSaid : Prop := possessionTakesRow.holds Try.pinned (OpenSpec.ofChange possessionTakesSpec)

/-- ITS FALSE NEIGHBOUR: 'it returns false'. Refute it at one input. -/
def possessionTakesWrong : ChangeSpec := { name := "possessionTakes", fn := fun _ => fun
  | [d1, d2, d3, d4] => { results := [.lit (.bool false)], args := [d1, d2, d3, d4] }
  | _ => none }
def PossessionTakesWrongFalsely : Prop := possessionTakesRow.holds Try.pinned (OpenSpec.ofChange possessionTakesWrong)

/-- 'signallinglaw42.PossessionGives': WHATEVER THE INPUT: true; the input reads as it did. -/
def possessionGivesSpec : ChangeSpec := { name := "possessionGives", fn := fun _ => fun
  | [d1, d2, d3, d4] => { results := [.lit (.bool true)], args := [d1, d2, d3, d4] }
  | _ => none }
def possessionGivesRow : OpenClaim := { program := "ythkgkolgdkcngaa", sum := "b66fa9eae9b225f01bec1fc697ca3e9d329fd2d8f3621ef50ee9363096a4a983", func := "signalling/signallinglaw42.PossessionGives", spec := "possessionGives", unfollowed := true, recurses := true, apart := false }
def PossessionGivesSaid : Prop := possessionGivesRow.holds Try.pinned (OpenSpec.ofChange possessionGivesSpec)

/-- ITS FALSE NEIGHBOUR: 'it returns false'. Refute it at one input. -/
def possessionGivesWrong : ChangeSpec := { name := "possessionGives", fn := fun _ => fun
  | [d1, d2, d3, d4] => { results := [.lit (.bool false)], args := [d1, d2, d3, d4] }
  | _ => none }
def PossessionGivesWrongFalsely : Prop := possessionGivesRow.holds Try.pinned (OpenSpec.ofChange possessionGivesWrong)

/-- 'signallinglaw42.PossessionFree': WHATEVER THE INPUT: true; the input reads as it did. -/
def possessionFreeSpec : ChangeSpec := { name := "possessionFree", fn := fun _ => fun
  | [d1, d2, d3, d4] => { results := [.lit (.bool true)], args := [d1, d2, d3, d4] }
  | _ => none }
def possessionFreeRow : OpenClaim := { program := "ythkgkolgdkcngaa", sum := "b66fa9eae9b225f01bec1fc697ca3e9d329fd2d8f3621ef50ee9363096a4a983", func := "signalling/signallinglaw42.PossessionFree", spec := "possessionFree", unfollowed := true, recurses := true, apart := false }
def PossessionFreeSaid : Prop := possessionFreeRow.holds Try.pinned (OpenSpec.ofChange possessionFreeSpec)

/-- ITS FALSE NEIGHBOUR: 'it returns false'. Refute it at one input. -/
def possessionFreeWrong : ChangeSpec := { name := "possessionFree", fn := fun _ => fun
  | [d1, d2, d3, d4] => { results := [.lit (.bool false)], args := [d1, d2, d3, d4] }
  | _ => none }
def PossessionFreeWrongFalsely : Prop := possessionFreeRow.holds Try.pinned (OpenSpec.ofChange possessionFreeWrong)

/-- 'signallinglaw42.PossessionRestores': WHATEVER THE INPUT: true; the input reads as it did. -/
def possessionRestoresSpec : ChangeSpec := { name := "possessionRestores", fn := fun _ => fun
  | [d1, d2, d3, d4, d5] => { results := [.lit (.bool true)], args := [d1, d2, d3, d4, d5] }
  | _ => none }
def possessionRestoresRow : OpenClaim := { program := "ythkgkolgdkcngaa", sum := "b66fa9eae9b225f01bec1fc697ca3e9d329fd2d8f3621ef50ee9363096a4a983", func := "signalling/signallinglaw42.PossessionRestores", spec := "possessionRestores", unfollowed := true, recurses := true, apart := false }
def PossessionRestoresSaid : Prop := possessionRestoresRow.holds Try.pinned (OpenSpec.ofChange possessionRestoresSpec)

/-- ITS FALSE NEIGHBOUR: 'it returns false'. Refute it at one input. -/
def possessionRestoresWrong : ChangeSpec := { name := "possessionRestores", fn := fun _ => fun
  | [d1, d2, d3, d4, d5] => { results := [.lit (.bool false)], args := [d1, d2, d3, d4, d5] }
  | _ => none }
def PossessionRestoresWrongFalsely : Prop := possessionRestoresRow.holds Try.pinned (OpenSpec.ofChange possessionRestoresWrong)

/-- 'signallinglaw42.PossessionOrder': WHATEVER THE INPUT: true; the input reads as it did. -/
def possessionOrderSpec : ChangeSpec := { name := "possessionOrder", fn := fun _ => fun
  | [d1, d2, d3, d4, d5] => { results := [.lit (.bool true)], args := [d1, d2, d3, d4, d5] }
  | _ => none }
def possessionOrderRow : OpenClaim := { program := "ythkgkolgdkcngaa", sum := "b66fa9eae9b225f01bec1fc697ca3e9d329fd2d8f3621ef50ee9363096a4a983", func := "signalling/signallinglaw42.PossessionOrder", spec := "possessionOrder", unfollowed := true, recurses := true, apart := false }
def PossessionOrderSaid : Prop := possessionOrderRow.holds Try.pinned (OpenSpec.ofChange possessionOrderSpec)

/-- ITS FALSE NEIGHBOUR: 'it returns false'. Refute it at one input. -/
def possessionOrderWrong : ChangeSpec := { name := "possessionOrder", fn := fun _ => fun
  | [d1, d2, d3, d4, d5] => { results := [.lit (.bool false)], args := [d1, d2, d3, d4, d5] }
  | _ => none }
def PossessionOrderWrongFalsely : Prop := possessionOrderRow.holds Try.pinned (OpenSpec.ofChange possessionOrderWrong)

/-- 'signallinglaw42.PossessionExcludes': WHATEVER THE INPUT: true; the input reads as it did. -/
def possessionExcludesSpec : ChangeSpec := { name := "possessionExcludes", fn := fun _ => fun
  | [d1, d2, d3, d4] => { results := [.lit (.bool true)], args := [d1, d2, d3, d4] }
  | _ => none }
def possessionExcludesRow : OpenClaim := { program := "ythkgkolgdkcngaa", sum := "b66fa9eae9b225f01bec1fc697ca3e9d329fd2d8f3621ef50ee9363096a4a983", func := "signalling/signallinglaw42.PossessionExcludes", spec := "possessionExcludes", unfollowed := true, recurses := true, apart := false }
def PossessionExcludesSaid : Prop := possessionExcludesRow.holds Try.pinned (OpenSpec.ofChange possessionExcludesSpec)

/-- ITS FALSE NEIGHBOUR: 'it returns false'. Refute it at one input. -/
def possessionExcludesWrong : ChangeSpec := { name := "possessionExcludes", fn := fun _ => fun
  | [d1, d2, d3, d4] => { results := [.lit (.bool false)], args := [d1, d2, d3, d4] }
  | _ => none }
def PossessionExcludesWrongFalsely : Prop := possessionExcludesRow.holds Try.pinned (OpenSpec.ofChange possessionExcludesWrong)

/- THE SECOND FORM. 'bulk': how many values and letters a reading holds, each counted each time it is reached (what is shared counts as often as it is met; a slice's spare places count too). A statement '..UptoSaid' is the law's where the arguments, and the package variables that the reading takes, are together of bulk at most 1048576: NARROWER than '..Said'. Prove '..Said' where nothing that the law and all that it calls make is longer than what came in: it says more and counts as full. Else prove '..UptoSaid'. A law counts once. -/
mutual
def uptoBulk {H : Type} : DataW H → Nat
  | .lit (.string bytes) => bytes.length + 1
  | .lit _ => 1
  | .nil => 1
  | .ptr d => uptoBulk d + 1
  | .slice elems spare => uptoBulkAll elems + uptoBulkAll spare + 1
  | .agg parts => uptoBulkAll parts + 1
  | .iface _ d => uptoBulk d + 1
  | .map entries => uptoBulkEntries entries + 1
  | .held _ => 1
def uptoBulkAll {H : Type} : List (DataW H) → Nat
  | [] => 0
  | d :: r => uptoBulk d + uptoBulkAll r
def uptoBulkEntries {H : Type} : List (Lit × DataW H) → Nat
  | [] => 0
  | x :: r => uptoBulkEntry x + uptoBulkEntries r
def uptoBulkEntry {H : Type} : Lit × DataW H → Nat
  | (.string bytes, d) => bytes.length + uptoBulk d + 1
  | (_, d) => uptoBulk d + 1
 end
def uptoSmall : (H : Type) → List (DataW H) → Bool := fun _ ds => decide (uptoBulkAll ds ≤ 1048576)
def OpenSpec.upto (s : _root_.Go.ChangeSpec) : _root_.Go.OpenSpec := { _root_.Go.OpenSpec.ofChange s with cond := some uptoSmall }

/-- 'signallinglaw42.PossessionTakes', WHERE WHAT IT READS IS OF BULK AT MOST 1048576: true; the input reads as it did. -/
def possessionTakesUptoRow : OpenClaim := { program := "ythkgkolgdkcngaa", sum := "b66fa9eae9b225f01bec1fc697ca3e9d329fd2d8f3621ef50ee9363096a4a983", func := "signalling/signallinglaw42.PossessionTakes", spec := "possessionTakes", unfollowed := true, recurses := true, apart := false, narrowed := true }
def PossessionTakesUptoSaid : Prop := possessionTakesUptoRow.holds Try.pinned (OpenSpec.upto possessionTakesSpec)

/-- 'signallinglaw42.PossessionGives', WHERE WHAT IT READS IS OF BULK AT MOST 1048576: true; the input reads as it did. -/
def possessionGivesUptoRow : OpenClaim := { program := "ythkgkolgdkcngaa", sum := "b66fa9eae9b225f01bec1fc697ca3e9d329fd2d8f3621ef50ee9363096a4a983", func := "signalling/signallinglaw42.PossessionGives", spec := "possessionGives", unfollowed := true, recurses := true, apart := false, narrowed := true }
def PossessionGivesUptoSaid : Prop := possessionGivesUptoRow.holds Try.pinned (OpenSpec.upto possessionGivesSpec)

/-- 'signallinglaw42.PossessionFree', WHERE WHAT IT READS IS OF BULK AT MOST 1048576: true; the input reads as it did. -/
def possessionFreeUptoRow : OpenClaim := { program := "ythkgkolgdkcngaa", sum := "b66fa9eae9b225f01bec1fc697ca3e9d329fd2d8f3621ef50ee9363096a4a983", func := "signalling/signallinglaw42.PossessionFree", spec := "possessionFree", unfollowed := true, recurses := true, apart := false, narrowed := true }
def PossessionFreeUptoSaid : Prop := possessionFreeUptoRow.holds Try.pinned (OpenSpec.upto possessionFreeSpec)

/-- 'signallinglaw42.PossessionRestores', WHERE WHAT IT READS IS OF BULK AT MOST 1048576: true; the input reads as it did. -/
def possessionRestoresUptoRow : OpenClaim := { program := "ythkgkolgdkcngaa", sum := "b66fa9eae9b225f01bec1fc697ca3e9d329fd2d8f3621ef50ee9363096a4a983", func := "signalling/signallinglaw42.PossessionRestores", spec := "possessionRestores", unfollowed := true, recurses := true, apart := false, narrowed := true }
def PossessionRestoresUptoSaid : Prop := possessionRestoresUptoRow.holds Try.pinned (OpenSpec.upto possessionRestoresSpec)

/-- 'signallinglaw42.PossessionOrder', WHERE WHAT IT READS IS OF BULK AT MOST 1048576: true; the input reads as it did. -/
def possessionOrderUptoRow : OpenClaim := { program := "ythkgkolgdkcngaa", sum := "b66fa9eae9b225f01bec1fc697ca3e9d329fd2d8f3621ef50ee9363096a4a983", func := "signalling/signallinglaw42.PossessionOrder", spec := "possessionOrder", unfollowed := true, recurses := true, apart := false, narrowed := true }
def PossessionOrderUptoSaid : Prop := possessionOrderUptoRow.holds Try.pinned (OpenSpec.upto possessionOrderSpec)

/-- 'signallinglaw42.PossessionExcludes', WHERE WHAT IT READS IS OF BULK AT MOST 1048576: true; the input reads as it did. -/
def possessionExcludesUptoRow : OpenClaim := { program := "ythkgkolgdkcngaa", sum := "b66fa9eae9b225f01bec1fc697ca3e9d329fd2d8f3621ef50ee9363096a4a983", func := "signalling/signallinglaw42.PossessionExcludes", spec := "possessionExcludes", unfollowed := true, recurses := true, apart := false, narrowed := true }
def PossessionExcludesUptoSaid : Prop := possessionExcludesUptoRow.holds Try.pinned (OpenSpec.upto possessionExcludesSpec)

end Rows
end Go.Proofs.Ythkgkolgdkcngaa
