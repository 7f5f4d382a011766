/-
  No cell of these rows narrows 'for every input' (looked for: loops, veiled, ifaces, maps, wideKeys, modest, calm, conditions, laid).
  DERIVED. THE GIVEN ROWS OF THIS SEAT. 5 by the template 'for every input the law returns true; each argument reads behind the call as it read before'; 0 by the template 'total and deterministic' (their statements: YtdhicpmpefkojaaGreatTotals.lean).
  GIVEN WITH THE SEED: the statements are not yours to turn. If you find one false, say at which input.
  Laid BY PROGRAM, IN A SANDBOX (cutbox-rows.mjs): the forced cells as the released guide's own fill.sh prints them over the translation 4ca1ec6c0deee1db… (all of the seat's roots in one cut). By AI agents, Wed Nov 11 2026. No macro, syntax, notation, axiom, sorry.
-/
import Derived.Test.YtdhicpmpefkojaaGreatChecked
import GoSem.Claim
import GoSem.ClaimJoined
import GoSem.ClaimMapViews
import Derived.JoinedTies
import Derived.KernelRfl
namespace Go.Proofs.YtdhicpmpefkojaaGreat
/- THE CELL 'sum', in the pinned program and in every row, IS THE sha256 OF THE DUMP (.gsa) THAT YtdhicpmpefkojaaGreatProg.lean LOADS. Nothing in Lean hashes anything: it is a label: what it is worth is what the hold of that sum in a sandbox is worth. -/
noncomputable def Tryz.pinned : Pinned := { name := "ytdhicpmpefkojaagreat", sum := "4ca1ec6c0deee1db8488d9ac3f204decb766a9364a7b430aaeb7382a31709018", checked := Tryz.checked }
namespace Rows
def none {H : Type} : Left H := { results := [], args := [] }

/-- 'signallinglaw23.InterlockCycles': WHATEVER THE INPUT: true; the input reads as it did. -/
def interlockCyclesSpec : ChangeSpec := { name := "interlockCycles", fn := fun _ => fun
  | [d1, d2, d3] => { results := [.lit (.bool true)], args := [d1, d2, d3] }
  | _ => none }
def interlockCyclesRow : OpenClaim := { program := "ytdhicpmpefkojaagreat", sum := "4ca1ec6c0deee1db8488d9ac3f204decb766a9364a7b430aaeb7382a31709018", func := "signalling/signallinglaw23.InterlockCycles", spec := "interlockCycles", unfollowed := true, recurses := true, apart := false }
def InterlockCyclesSaid : Prop := interlockCyclesRow.holds Tryz.pinned (OpenSpec.ofChange interlockCyclesSpec)

/-- ITS FALSE NEIGHBOUR: 'it returns false'. Refute it at one input. -/
def interlockCyclesWrong : ChangeSpec := { name := "interlockCycles", fn := fun _ => fun
  | [d1, d2, d3] => { results := [.lit (.bool false)], args := [d1, d2, d3] }
  | _ => none }
def InterlockCyclesWrongFalsely : Prop := interlockCyclesRow.holds Tryz.pinned (OpenSpec.ofChange interlockCyclesWrong)

/-- 'signallinglaw23.InterlockSafe': WHATEVER THE INPUT: true; the input reads as it did. -/
def interlockSafeSpec : ChangeSpec := { name := "interlockSafe", fn := fun _ => fun
  | [d1, d2] => { results := [.lit (.bool true)], args := [d1, d2] }
  | _ => none }
def interlockSafeRow : OpenClaim := { program := "ytdhicpmpefkojaagreat", sum := "4ca1ec6c0deee1db8488d9ac3f204decb766a9364a7b430aaeb7382a31709018", func := "signalling/signallinglaw23.InterlockSafe", spec := "interlockSafe", unfollowed := true, recurses := true, apart := false }
def InterlockSafeSaid : Prop := interlockSafeRow.holds Tryz.pinned (OpenSpec.ofChange interlockSafeSpec)

/-- ITS FALSE NEIGHBOUR: 'it returns false'. Refute it at one input. -/
def interlockSafeWrong : ChangeSpec := { name := "interlockSafe", fn := fun _ => fun
  | [d1, d2] => { results := [.lit (.bool false)], args := [d1, d2] }
  | _ => none }
def InterlockSafeWrongFalsely : Prop := interlockSafeRow.holds Tryz.pinned (OpenSpec.ofChange interlockSafeWrong)

/-- 'signallinglaw23.InterlockProves': WHATEVER THE INPUT: true; the input reads as it did. -/
def interlockProvesSpec : ChangeSpec := { name := "interlockProves", fn := fun _ => fun
  | [d1, d2, d3] => { results := [.lit (.bool true)], args := [d1, d2, d3] }
  | _ => none }
def interlockProvesRow : OpenClaim := { program := "ytdhicpmpefkojaagreat", sum := "4ca1ec6c0deee1db8488d9ac3f204decb766a9364a7b430aaeb7382a31709018", func := "signalling/signallinglaw23.InterlockProves", spec := "interlockProves", unfollowed := true, recurses := true, apart := false }
def InterlockProvesSaid : Prop := interlockProvesRow.holds Tryz.pinned (OpenSpec.ofChange interlockProvesSpec)

/-- ITS FALSE NEIGHBOUR: 'it returns false'. Refute it at one input. -/
def interlockProvesWrong : ChangeSpec := { name := "interlockProves", fn := fun _ => fun
  | [d1, d2, d3] => { results := [.lit (.bool false)], args := [d1, d2, d3] }
  | _ => none }
def InterlockProvesWrongFalsely : Prop := interlockProvesRow.holds Tryz.pinned (OpenSpec.ofChange interlockProvesWrong)

/-- 'signallinglaw23.InterlockReleases': WHATEVER THE INPUT: true; the input reads as it did. -/
def interlockReleasesSpec : ChangeSpec := { name := "interlockReleases", fn := fun _ => fun
  | [d1, d2] => { results := [.lit (.bool true)], args := [d1, d2] }
  | _ => none }
def interlockReleasesRow : OpenClaim := { program := "ytdhicpmpefkojaagreat", sum := "4ca1ec6c0deee1db8488d9ac3f204decb766a9364a7b430aaeb7382a31709018", func := "signalling/signallinglaw23.InterlockReleases", spec := "interlockReleases", unfollowed := true, recurses := true, apart := false }
def InterlockReleasesSaid : Prop := interlockReleasesRow.holds Tryz.pinned (OpenSpec.ofChange interlockReleasesSpec)

/-- ITS FALSE NEIGHBOUR: 'it returns false'. Refute it at one input. -/
def interlockReleasesWrong : ChangeSpec := { name := "interlockReleases", fn := fun _ => fun
  | [d1, d2] => { results := [.lit (.bool false)], args := [d1, d2] }
  | _ => none }
def InterlockReleasesWrongFalsely : Prop := interlockReleasesRow.holds Tryz.pinned (OpenSpec.ofChange interlockReleasesWrong)

/-- 'signallinglaw23.InterlockStarts': WHATEVER THE INPUT: true; the input reads as it did. -/
def interlockStartsSpec : ChangeSpec := { name := "interlockStarts", fn := fun _ => fun
  | [d1, d2] => { results := [.lit (.bool true)], args := [d1, d2] }
  | _ => none }
def interlockStartsRow : OpenClaim := { program := "ytdhicpmpefkojaagreat", sum := "4ca1ec6c0deee1db8488d9ac3f204decb766a9364a7b430aaeb7382a31709018", func := "signalling/signallinglaw23.InterlockStarts", spec := "interlockStarts", unfollowed := true, recurses := true, apart := false }
def InterlockStartsSaid : Prop := interlockStartsRow.holds Tryz.pinned (OpenSpec.ofChange interlockStartsSpec)

/-- ITS FALSE NEIGHBOUR: 'it returns false'. Refute it at one input. -/
def interlockStartsWrong : ChangeSpec := { name := "interlockStarts", fn := fun _ => fun
  | [d1, d2] => { results := [.lit (.bool false)], args := [d1, d2] }
  | _ => none }
def InterlockStartsWrongFalsely : Prop := interlockStartsRow.holds Tryz.pinned (OpenSpec.ofChange interlockStartsWrong)

/- THE SECOND FORM. 'bulk': how many values and letters a reading holds, each counted each time it is reached (what is shared counts as often as it is met; a slice's spare places count too). A statement '..UptoSaid' is the law's where the arguments, and the package variables that the reading takes, are together of bulk at most 1048576: NARROWER than '..Said'. Prove '..Said' where nothing that the law and all that it calls make is longer than what came in: it says more and counts as full. Else prove '..UptoSaid'. A law counts once. -/
mutual
def uptoBulk {H : Type} : DataW H → Nat
  | .lit (.string bytes) => bytes.length + 1
  | .lit _ => 1
  | .nil => 1
  | .ptr d => uptoBulk d + 1
  | .slice elems spare => uptoBulkAll elems + uptoBulkAll spare + 1
  | .agg parts => uptoBulkAll parts + 1
  | .iface _ d => uptoBulk d + 1
  | .map entries => uptoBulkEntries entries + 1
  | .held _ => 1
def uptoBulkAll {H : Type} : List (DataW H) → Nat
  | [] => 0
  | d :: r => uptoBulk d + uptoBulkAll r
def uptoBulkEntries {H : Type} : List (Lit × DataW H) → Nat
  | [] => 0
  | x :: r => uptoBulkEntry x + uptoBulkEntries r
def uptoBulkEntry {H : Type} : Lit × DataW H → Nat
  | (.string bytes, d) => bytes.length + uptoBulk d + 1
  | (_, d) => uptoBulk d + 1
 end
def uptoSmall : (H : Type) → List (DataW H) → Bool := fun _ ds => decide (uptoBulkAll ds ≤ 1048576)
def OpenSpec.upto (s : _root_.Go.ChangeSpec) : _root_.Go.OpenSpec := { _root_.Go.OpenSpec.ofChange s with cond := some uptoSmall }

/-- 'signallinglaw23.InterlockCycles', WHERE WHAT IT READS IS OF BULK AT MOST 1048576: true; the input reads as it did. -/
def interlockCyclesUptoRow : OpenClaim := { program := "ytdhicpmpefkojaagreat", sum := "4ca1ec6c0deee1db8488d9ac3f204decb766a9364a7b430aaeb7382a31709018", func := "signalling/signallinglaw23.InterlockCycles", spec := "interlockCycles", unfollowed := true, recurses := true, apart := false, narrowed := true }
def InterlockCyclesUptoSaid : Prop := interlockCyclesUptoRow.holds Tryz.pinned (OpenSpec.upto interlockCyclesSpec)

/-- 'signallinglaw23.InterlockSafe', WHERE WHAT IT READS IS OF BULK AT MOST 1048576: true; the input reads as it did. -/
def interlockSafeUptoRow : OpenClaim := { program := "ytdhicpmpefkojaagreat", sum := "4ca1ec6c0deee1db8488d9ac3f204decb766a9364a7b430aaeb7382a31709018", func := "signalling/signallinglaw23.InterlockSafe", spec := "interlockSafe", unfollowed := true, recurses := true, apart := false, narrowed := true }
def InterlockSafeUptoSaid : Prop := interlockSafeUptoRow.holds Tryz.pinned (OpenSpec.upto interlockSafeSpec)

/-- 'signallinglaw23.InterlockProves', WHERE WHAT IT READS IS OF BULK AT MOST 1048576: true; the input reads as it did. -/
def interlockProvesUptoRow : OpenClaim := { program := "ytdhicpmpefkojaagreat", sum := "4ca1ec6c0deee1db8488d9ac3f204decb766a9364a7b430aaeb7382a31709018", func := "signalling/signallinglaw23.InterlockProves", spec := "interlockProves", unfollowed := true, recurses := true, apart := false, narrowed := true }
def InterlockProvesUptoSaid : Prop := interlockProvesUptoRow.holds Tryz.pinned (OpenSpec.upto interlockProvesSpec)

/-- 'signallinglaw23.InterlockReleases', WHERE WHAT IT READS IS OF BULK AT MOST 1048576: true; the input reads as it did. -/
def interlockReleasesUptoRow : OpenClaim := { program := "ytdhicpmpefkojaagreat", sum := "4ca1ec6c0deee1db8488d9ac3f204decb766a9364a7b430aaeb7382a31709018", func := "signalling/signallinglaw23.InterlockReleases", spec := "interlockReleases", unfollowed := true, recurses := true, apart := false, narrowed := true }
def InterlockReleasesUptoSaid : Prop := interlockReleasesUptoRow.holds Tryz.pinned (OpenSpec.upto interlockReleasesSpec)

/-- 'signallinglaw23.InterlockStarts', WHERE WHAT IT READS IS OF BULK AT MOST 1048576: true; the input reads as it did. -/
def interlockStartsUptoRow : OpenClaim := { program := "ytdhicpmpefkojaagreat", sum := "4ca1ec6c0deee1db8488d9ac3f204decb766a9364a7b430aaeb7382a31709018", func := "signalling/signallinglaw23.InterlockStarts", spec := "interlockStarts", unfollowed := true, recurses := true, apart := false, narrowed := true }
def InterlockStartsUptoSaid : Prop := interlockStartsUptoRow.holds Tryz.pinned (OpenSpec.upto interlockStartsSpec)

end Rows
end Go.Proofs.YtdhicpmpefkojaaGreat
