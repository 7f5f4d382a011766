/-
  NARROWER THAN 'FOR EVERY INPUT', by the rows' own cells (each row's printed sentence says how): BddBuilds: loops · BddCanonical: loops.
  DERIVED. THE GIVEN ROWS OF THIS SEAT. 6 by the template 'for every input the law returns true; each argument reads behind the call as it read before'; 0 by the template 'total and deterministic' (their statements: YtdkhkhidekpfoaaTotals.lean).
  GIVEN WITH THE SEED: the statements are not yours to turn. If you find one false, say at which input.
  Laid BY PROGRAM, IN A SANDBOX (cutbox-rows.mjs): the forced cells as the released guide's own fill.sh prints them over the translation 376374731cd489ad… (all of the seat's roots in one cut). By AI agents, Wed Nov 11 2026. No macro, syntax, notation, axiom, sorry.
-/
import Derived.Test.YtdkhkhidekpfoaaChecked
import GoSem.Claim
import GoSem.ClaimJoined
import GoSem.ClaimMapViews
import Derived.JoinedTies
import Derived.KernelRfl
namespace Go.Proofs.Ytdkhkhidekpfoaa
/- THE CELL 'sum', in the pinned program and in every row, IS THE sha256 OF THE DUMP (.gsa) THAT YtdkhkhidekpfoaaProg.lean LOADS. Nothing in Lean hashes anything: it is a label: what it is worth is what the hold of that sum in a sandbox is worth. -/
noncomputable def Try.pinned : Pinned := { name := "ytdkhkhidekpfoaa", sum := "376374731cd489ada06da488d9b338f39723a58571a3733bf7a7b0fbb2ed5d9f", checked := Try.checked }
namespace Rows
def none {H : Type} : Left H := { results := [], args := [] }

/-- 'signallinglaw19.BddBuilds': WHATEVER THE INPUT: true; the input reads as it did. -/
def bddBuildsSpec : ChangeSpec := { name := "bddBuilds", fn := fun _ => fun
  | [d1, d2] => { results := [.lit (.bool true)], args := [d1, d2] }
  | _ => none }
def bddBuildsRow : OpenClaim := { program := "ytdkhkhidekpfoaa", sum := "376374731cd489ada06da488d9b338f39723a58571a3733bf7a7b0fbb2ed5d9f", func := "signalling/signallinglaw19.BddBuilds", spec := "bddBuilds", unfollowed := true, recurses := true, loops := true, plainKeys := false, apart := false }
def BddBuildsSaid : Prop := bddBuildsRow.holds Try.pinned (OpenSpec.ofChange bddBuildsSpec)

/-- ITS FALSE NEIGHBOUR: 'it returns false'. Refute it at one input. -/
def bddBuildsWrong : ChangeSpec := { name := "bddBuilds", fn := fun _ => fun
  | [d1, d2] => { results := [.lit (.bool false)], args := [d1, d2] }
  | _ => none }
def BddBuildsWrongFalsely : Prop := bddBuildsRow.holds Try.pinned (OpenSpec.ofChange bddBuildsWrong)

/-- 'signallinglaw19.BddCounts': WHATEVER THE INPUT: true; the input reads as it did. -/
def bddCountsSpec : ChangeSpec := { name := "bddCounts", fn := fun _ => fun
  | [d1, d2] => { results := [.lit (.bool true)], args := [d1, d2] }
  | _ => none }
def bddCountsRow : OpenClaim := { program := "ytdkhkhidekpfoaa", sum := "376374731cd489ada06da488d9b338f39723a58571a3733bf7a7b0fbb2ed5d9f", func := "signalling/signallinglaw19.BddCounts", spec := "bddCounts", unfollowed := true, recurses := true, plainKeys := false, apart := false }
def BddCountsSaid : Prop := bddCountsRow.holds Try.pinned (OpenSpec.ofChange bddCountsSpec)

/-- ITS FALSE NEIGHBOUR: 'it returns false'. Refute it at one input. -/
def bddCountsWrong : ChangeSpec := { name := "bddCounts", fn := fun _ => fun
  | [d1, d2] => { results := [.lit (.bool false)], args := [d1, d2] }
  | _ => none }
def BddCountsWrongFalsely : Prop := bddCountsRow.holds Try.pinned (OpenSpec.ofChange bddCountsWrong)

/-- 'signallinglaw19.BddReads': WHATEVER THE INPUT: true; the input reads as it did. -/
def bddReadsSpec : ChangeSpec := { name := "bddReads", fn := fun _ => fun
  | [d1, d2] => { results := [.lit (.bool true)], args := [d1, d2] }
  | _ => none }
def bddReadsRow : OpenClaim := { program := "ytdkhkhidekpfoaa", sum := "376374731cd489ada06da488d9b338f39723a58571a3733bf7a7b0fbb2ed5d9f", func := "signalling/signallinglaw19.BddReads", spec := "bddReads", unfollowed := true, recurses := true, plainKeys := false, apart := false }
def BddReadsSaid : Prop := bddReadsRow.holds Try.pinned (OpenSpec.ofChange bddReadsSpec)

/-- ITS FALSE NEIGHBOUR: 'it returns false'. Refute it at one input. -/
def bddReadsWrong : ChangeSpec := { name := "bddReads", fn := fun _ => fun
  | [d1, d2] => { results := [.lit (.bool false)], args := [d1, d2] }
  | _ => none }
def BddReadsWrongFalsely : Prop := bddReadsRow.holds Try.pinned (OpenSpec.ofChange bddReadsWrong)

/-- 'signallinglaw19.BddCanonical': WHATEVER THE INPUT: true; the input reads as it did. -/
def bddCanonicalSpec : ChangeSpec := { name := "bddCanonical", fn := fun _ => fun
  | [d1, d2] => { results := [.lit (.bool true)], args := [d1, d2] }
  | _ => none }
def bddCanonicalRow : OpenClaim := { program := "ytdkhkhidekpfoaa", sum := "376374731cd489ada06da488d9b338f39723a58571a3733bf7a7b0fbb2ed5d9f", func := "signalling/signallinglaw19.BddCanonical", spec := "bddCanonical", unfollowed := true, recurses := true, loops := true, plainKeys := false, apart := false }
def BddCanonicalSaid : Prop := bddCanonicalRow.holds Try.pinned (OpenSpec.ofChange bddCanonicalSpec)

/-- ITS FALSE NEIGHBOUR: 'it returns false'. Refute it at one input. -/
def bddCanonicalWrong : ChangeSpec := { name := "bddCanonical", fn := fun _ => fun
  | [d1, d2] => { results := [.lit (.bool false)], args := [d1, d2] }
  | _ => none }
def BddCanonicalWrongFalsely : Prop := bddCanonicalRow.holds Try.pinned (OpenSpec.ofChange bddCanonicalWrong)

/-- 'signallinglaw19.BddCombines': WHATEVER THE INPUT: true; the input reads as it did. -/
def bddCombinesSpec : ChangeSpec := { name := "bddCombines", fn := fun _ => fun
  | [d1, d2] => { results := [.lit (.bool true)], args := [d1, d2] }
  | _ => none }
def bddCombinesRow : OpenClaim := { program := "ytdkhkhidekpfoaa", sum := "376374731cd489ada06da488d9b338f39723a58571a3733bf7a7b0fbb2ed5d9f", func := "signalling/signallinglaw19.BddCombines", spec := "bddCombines", unfollowed := true, recurses := true, plainKeys := false, apart := false }
def BddCombinesSaid : Prop := bddCombinesRow.holds Try.pinned (OpenSpec.ofChange bddCombinesSpec)

/-- ITS FALSE NEIGHBOUR: 'it returns false'. Refute it at one input. -/
def bddCombinesWrong : ChangeSpec := { name := "bddCombines", fn := fun _ => fun
  | [d1, d2] => { results := [.lit (.bool false)], args := [d1, d2] }
  | _ => none }
def BddCombinesWrongFalsely : Prop := bddCombinesRow.holds Try.pinned (OpenSpec.ofChange bddCombinesWrong)

/-- 'signallinglaw19.BddOpposes': WHATEVER THE INPUT: true; the input reads as it did. -/
def bddOpposesSpec : ChangeSpec := { name := "bddOpposes", fn := fun _ => fun
  | [d1, d2] => { results := [.lit (.bool true)], args := [d1, d2] }
  | _ => none }
def bddOpposesRow : OpenClaim := { program := "ytdkhkhidekpfoaa", sum := "376374731cd489ada06da488d9b338f39723a58571a3733bf7a7b0fbb2ed5d9f", func := "signalling/signallinglaw19.BddOpposes", spec := "bddOpposes", unfollowed := true, recurses := true, plainKeys := false, apart := false }
def BddOpposesSaid : Prop := bddOpposesRow.holds Try.pinned (OpenSpec.ofChange bddOpposesSpec)

/-- ITS FALSE NEIGHBOUR: 'it returns false'. Refute it at one input. -/
def bddOpposesWrong : ChangeSpec := { name := "bddOpposes", fn := fun _ => fun
  | [d1, d2] => { results := [.lit (.bool false)], args := [d1, d2] }
  | _ => none }
def BddOpposesWrongFalsely : Prop := bddOpposesRow.holds Try.pinned (OpenSpec.ofChange bddOpposesWrong)

/- THE SECOND FORM. 'bulk': how many values and letters a reading holds, each counted each time it is reached (what is shared counts as often as it is met; a slice's spare places count too). A statement '..UptoSaid' is the law's where the arguments, and the package variables that the reading takes, are together of bulk at most 1048576: NARROWER than '..Said'. Prove '..Said' where nothing that the law and all that it calls make is longer than what came in: it says more and counts as full. Else prove '..UptoSaid'. A law counts once. -/
mutual
def uptoBulk {H : Type} : DataW H → Nat
  | .lit (.string bytes) => bytes.length + 1
  | .lit _ => 1
  | .nil => 1
  | .ptr d => uptoBulk d + 1
  | .slice elems spare => uptoBulkAll elems + uptoBulkAll spare + 1
  | .agg parts => uptoBulkAll parts + 1
  | .iface _ d => uptoBulk d + 1
  | .map entries => uptoBulkEntries entries + 1
  | .held _ => 1
def uptoBulkAll {H : Type} : List (DataW H) → Nat
  | [] => 0
  | d :: r => uptoBulk d + uptoBulkAll r
def uptoBulkEntries {H : Type} : List (Lit × DataW H) → Nat
  | [] => 0
  | x :: r => uptoBulkEntry x + uptoBulkEntries r
def uptoBulkEntry {H : Type} : Lit × DataW H → Nat
  | (.string bytes, d) => bytes.length + uptoBulk d + 1
  | (_, d) => uptoBulk d + 1
 end
def uptoSmall : (H : Type) → List (DataW H) → Bool := fun _ ds => decide (uptoBulkAll ds ≤ 1048576)
def OpenSpec.upto (s : _root_.Go.ChangeSpec) : _root_.Go.OpenSpec := { _root_.Go.OpenSpec.ofChange s with cond := some uptoSmall }

/-- 'signallinglaw19.BddBuilds', WHERE WHAT IT READS IS OF BULK AT MOST 1048576: true; the input reads as it did. -/
def bddBuildsUptoRow : OpenClaim := { program := "ytdkhkhidekpfoaa", sum := "376374731cd489ada06da488d9b338f39723a58571a3733bf7a7b0fbb2ed5d9f", func := "signalling/signallinglaw19.BddBuilds", spec := "bddBuilds", unfollowed := true, recurses := true, loops := true, plainKeys := false, apart := false, narrowed := true }
def BddBuildsUptoSaid : Prop := bddBuildsUptoRow.holds Try.pinned (OpenSpec.upto bddBuildsSpec)

/-- 'signallinglaw19.BddCounts', WHERE WHAT IT READS IS OF BULK AT MOST 1048576: true; the input reads as it did. -/
def bddCountsUptoRow : OpenClaim := { program := "ytdkhkhidekpfoaa", sum := "376374731cd489ada06da488d9b338f39723a58571a3733bf7a7b0fbb2ed5d9f", func := "signalling/signallinglaw19.BddCounts", spec := "bddCounts", unfollowed := true, recurses := true, plainKeys := false, apart := false, narrowed := true }
def BddCountsUptoSaid : Prop := bddCountsUptoRow.holds Try.pinned (OpenSpec.upto bddCountsSpec)

/-- 'signallinglaw19.BddReads', WHERE WHAT IT READS IS OF BULK AT MOST 1048576: true; the input reads as it did. -/
def bddReadsUptoRow : OpenClaim := { program := "ytdkhkhidekpfoaa", sum := "376374731cd489ada06da488d9b338f39723a58571a3733bf7a7b0fbb2ed5d9f", func := "signalling/signallinglaw19.BddReads", spec := "bddReads", unfollowed := true, recurses := true, plainKeys := false, apart := false, narrowed := true }
def BddReadsUptoSaid : Prop := bddReadsUptoRow.holds Try.pinned (OpenSpec.upto bddReadsSpec)

/-- 'signallinglaw19.BddCanonical', WHERE WHAT IT READS IS OF BULK AT MOST 1048576: true; the input reads as it did. -/
def bddCanonicalUptoRow : OpenClaim := { program := "ytdkhkhidekpfoaa", sum := "376374731cd489ada06da488d9b338f39723a58571a3733bf7a7b0fbb2ed5d9f", func := "signalling/signallinglaw19.BddCanonical", spec := "bddCanonical", unfollowed := true, recurses := true, loops := true, plainKeys := false, apart := false, narrowed := true }
def BddCanonicalUptoSaid : Prop := bddCanonicalUptoRow.holds Try.pinned (OpenSpec.upto bddCanonicalSpec)

/-- 'signallinglaw19.BddCombines', WHERE WHAT IT READS IS OF BULK AT MOST 1048576: true; the input reads as it did. -/
def bddCombinesUptoRow : OpenClaim := { program := "ytdkhkhidekpfoaa", sum := "376374731cd489ada06da488d9b338f39723a58571a3733bf7a7b0fbb2ed5d9f", func := "signalling/signallinglaw19.BddCombines", spec := "bddCombines", unfollowed := true, recurses := true, plainKeys := false, apart := false, narrowed := true }
def BddCombinesUptoSaid : Prop := bddCombinesUptoRow.holds Try.pinned (OpenSpec.upto bddCombinesSpec)

/-- 'signallinglaw19.BddOpposes', WHERE WHAT IT READS IS OF BULK AT MOST 1048576: true; the input reads as it did. -/
def bddOpposesUptoRow : OpenClaim := { program := "ytdkhkhidekpfoaa", sum := "376374731cd489ada06da488d9b338f39723a58571a3733bf7a7b0fbb2ed5d9f", func := "signalling/signallinglaw19.BddOpposes", spec := "bddOpposes", unfollowed := true, recurses := true, plainKeys := false, apart := false, narrowed := true }
def BddOpposesUptoSaid : Prop := bddOpposesUptoRow.holds Try.pinned (OpenSpec.upto bddOpposesSpec)

end Rows
end Go.Proofs.Ytdkhkhidekpfoaa
