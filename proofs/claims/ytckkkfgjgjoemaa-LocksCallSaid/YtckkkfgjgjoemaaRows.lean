/-
  No cell of these rows narrows 'for every input' (looked for: loops, veiled, ifaces, maps, wideKeys, modest, calm, conditions, laid).
  DERIVED. THE GIVEN ROWS OF THIS SEAT. 6 by the template 'for every input the law returns true; each argument reads behind the call as it read before'; 0 by the template 'total and deterministic' (their statements: YtckkkfgjgjoemaaTotals.lean).
  GIVEN WITH THE SEED: the statements are not yours to turn. If you find one false, say at which input.
  Laid BY PROGRAM, IN A SANDBOX (cutbox-rows.mjs): the forced cells as the released guide's own fill.sh prints them over the translation 6630181d79a12861… (all of the seat's roots in one cut). By AI agents, Wed Nov 11 2026. No macro, syntax, notation, axiom, sorry.
-/
import Derived.Test.YtckkkfgjgjoemaaChecked
import GoSem.Claim
import GoSem.ClaimJoined
import GoSem.ClaimMapViews
import Derived.JoinedTies
import Derived.KernelRfl
namespace Go.Proofs.Ytckkkfgjgjoemaa
/- THE CELL 'sum', in the pinned program and in every row, IS THE sha256 OF THE DUMP (.gsa) THAT YtckkkfgjgjoemaaProg.lean LOADS. Nothing in Lean hashes anything: it is a label: what it is worth is what the hold of that sum in a sandbox is worth. -/
noncomputable def Try.pinned : Pinned := { name := "ytckkkfgjgjoemaa", sum := "6630181d79a12861c456b816c4d58520b753c6af9512b7143654f643d1b663eb", checked := Try.checked }
namespace Rows
def none {H : Type} : Left H := { results := [], args := [] }

/-- 'signallinglaw21.LocksOf': WHATEVER THE INPUT: true; the input reads as it did. -/
def locksOfSpec : ChangeSpec := { name := "locksOf", fn := fun _ => fun
  | [d1, d2, d3] => { results := [.lit (.bool true)], args := [d1, d2, d3] }
  | _ => none }
def locksOfRow : OpenClaim := { program := "ytckkkfgjgjoemaa", sum := "6630181d79a12861c456b816c4d58520b753c6af9512b7143654f643d1b663eb", func := "signalling/signallinglaw21.LocksOf", spec := "locksOf", unfollowed := true, recurses := true, apart := false }
def LocksOfSaid : Prop := locksOfRow.holds Try.pinned (OpenSpec.ofChange locksOfSpec)

/-- ITS FALSE NEIGHBOUR: 'it returns false'. Refute it at one input. -/
def locksOfWrong : ChangeSpec := { name := "locksOf", fn := fun _ => fun
  | [d1, d2, d3] => { results := [.lit (.bool false)], args := [d1, d2, d3] }
  | _ => none }
def LocksOfWrongFalsely : Prop := locksOfRow.holds Try.pinned (OpenSpec.ofChange locksOfWrong)

/-- 'signallinglaw21.LocksSound': WHATEVER THE INPUT: true; the input reads as it did. -/
def locksSoundSpec : ChangeSpec := { name := "locksSound", fn := fun _ => fun
  | [d1, d2] => { results := [.lit (.bool true)], args := [d1, d2] }
  | _ => none }
def locksSoundRow : OpenClaim := { program := "ytckkkfgjgjoemaa", sum := "6630181d79a12861c456b816c4d58520b753c6af9512b7143654f643d1b663eb", func := "signalling/signallinglaw21.LocksSound", spec := "locksSound", unfollowed := true, recurses := true, apart := false }
def LocksSoundSaid : Prop := locksSoundRow.holds Try.pinned (OpenSpec.ofChange locksSoundSpec)

/-- ITS FALSE NEIGHBOUR: 'it returns false'. Refute it at one input. -/
def locksSoundWrong : ChangeSpec := { name := "locksSound", fn := fun _ => fun
  | [d1, d2] => { results := [.lit (.bool false)], args := [d1, d2] }
  | _ => none }
def LocksSoundWrongFalsely : Prop := locksSoundRow.holds Try.pinned (OpenSpec.ofChange locksSoundWrong)

/-- 'signallinglaw21.LocksFree': WHATEVER THE INPUT: true; the input reads as it did. -/
def locksFreeSpec : ChangeSpec := { name := "locksFree", fn := fun _ => fun
  | [d1, d2, d3, d4] => { results := [.lit (.bool true)], args := [d1, d2, d3, d4] }
  | _ => none }
def locksFreeRow : OpenClaim := { program := "ytckkkfgjgjoemaa", sum := "6630181d79a12861c456b816c4d58520b753c6af9512b7143654f643d1b663eb", func := "signalling/signallinglaw21.LocksFree", spec := "locksFree", unfollowed := true, recurses := true, apart := false }
def LocksFreeSaid : Prop := locksFreeRow.holds Try.pinned (OpenSpec.ofChange locksFreeSpec)

/-- ITS FALSE NEIGHBOUR: 'it returns false'. Refute it at one input. -/
def locksFreeWrong : ChangeSpec := { name := "locksFree", fn := fun _ => fun
  | [d1, d2, d3, d4] => { results := [.lit (.bool false)], args := [d1, d2, d3, d4] }
  | _ => none }
def LocksFreeWrongFalsely : Prop := locksFreeRow.holds Try.pinned (OpenSpec.ofChange locksFreeWrong)

/-- 'signallinglaw21.LocksRelease': WHATEVER THE INPUT: true; the input reads as it did. -/
def locksReleaseSpec : ChangeSpec := { name := "locksRelease", fn := fun _ => fun
  | [d1, d2, d3] => { results := [.lit (.bool true)], args := [d1, d2, d3] }
  | _ => none }
def locksReleaseRow : OpenClaim := { program := "ytckkkfgjgjoemaa", sum := "6630181d79a12861c456b816c4d58520b753c6af9512b7143654f643d1b663eb", func := "signalling/signallinglaw21.LocksRelease", spec := "locksRelease", unfollowed := true, recurses := true, apart := false }
def LocksReleaseSaid : Prop := locksReleaseRow.holds Try.pinned (OpenSpec.ofChange locksReleaseSpec)

/-- ITS FALSE NEIGHBOUR: 'it returns false'. Refute it at one input. -/
def locksReleaseWrong : ChangeSpec := { name := "locksRelease", fn := fun _ => fun
  | [d1, d2, d3] => { results := [.lit (.bool false)], args := [d1, d2, d3] }
  | _ => none }
def LocksReleaseWrongFalsely : Prop := locksReleaseRow.holds Try.pinned (OpenSpec.ofChange locksReleaseWrong)

/-- 'signallinglaw21.LocksCall': WHATEVER THE INPUT: true; the input reads as it did. -/
def locksCallSpec : ChangeSpec := { name := "locksCall", fn := fun _ => fun
  | [d1, d2, d3, d4] => { results := [.lit (.bool true)], args := [d1, d2, d3, d4] }
  | _ => none }
def locksCallRow : OpenClaim := { program := "ytckkkfgjgjoemaa", sum := "6630181d79a12861c456b816c4d58520b753c6af9512b7143654f643d1b663eb", func := "signalling/signallinglaw21.LocksCall", spec := "locksCall", unfollowed := true, recurses := true, apart := false }
def LocksCallSaid : Prop := locksCallRow.holds Try.pinned (OpenSpec.ofChange locksCallSpec)

/-- ITS FALSE NEIGHBOUR: 'it returns false'. Refute it at one input. -/
def locksCallWrong : ChangeSpec := { name := "locksCall", fn := fun _ => fun
  | [d1, d2, d3, d4] => { results := [.lit (.bool false)], args := [d1, d2, d3, d4] }
  | _ => none }
def LocksCallWrongFalsely : Prop := locksCallRow.holds Try.pinned (OpenSpec.ofChange locksCallWrong)

/-- 'signallinglaw21.LocksExclude': WHATEVER THE INPUT: true; the input reads as it did. -/
def locksExcludeSpec : ChangeSpec := { name := "locksExclude", fn := fun _ => fun
  | [d1, d2, d3, d4] => { results := [.lit (.bool true)], args := [d1, d2, d3, d4] }
  | _ => none }
def locksExcludeRow : OpenClaim := { program := "ytckkkfgjgjoemaa", sum := "6630181d79a12861c456b816c4d58520b753c6af9512b7143654f643d1b663eb", func := "signalling/signallinglaw21.LocksExclude", spec := "locksExclude", unfollowed := true, recurses := true, apart := false }
def LocksExcludeSaid : Prop := locksExcludeRow.holds Try.pinned (OpenSpec.ofChange locksExcludeSpec)

/-- ITS FALSE NEIGHBOUR: 'it returns false'. Refute it at one input. -/
def locksExcludeWrong : ChangeSpec := { name := "locksExclude", fn := fun _ => fun
  | [d1, d2, d3, d4] => { results := [.lit (.bool false)], args := [d1, d2, d3, d4] }
  | _ => none }
def LocksExcludeWrongFalsely : Prop := locksExcludeRow.holds Try.pinned (OpenSpec.ofChange locksExcludeWrong)

/- THE SECOND FORM. 'bulk': how many values and letters a reading holds, each counted each time it is reached (what is shared counts as often as it is met; a slice's spare places count too). A statement '..UptoSaid' is the law's where the arguments, and the package variables that the reading takes, are together of bulk at most 1048576: NARROWER than '..Said'. Prove '..Said' where nothing that the law and all that it calls make is longer than what came in: it says more and counts as full. Else prove '..UptoSaid'. A law counts once. -/
mutual
def uptoBulk {H : Type} : DataW H → Nat
  | .lit (.string bytes) => bytes.length + 1
  | .lit _ => 1
  | .nil => 1
  | .ptr d => uptoBulk d + 1
  | .slice elems spare => uptoBulkAll elems + uptoBulkAll spare + 1
  | .agg parts => uptoBulkAll parts + 1
  | .iface _ d => uptoBulk d + 1
  | .map entries => uptoBulkEntries entries + 1
  | .held _ => 1
def uptoBulkAll {H : Type} : List (DataW H) → Nat
  | [] => 0
  | d :: r => uptoBulk d + uptoBulkAll r
def uptoBulkEntries {H : Type} : List (Lit × DataW H) → Nat
  | [] => 0
  | x :: r => uptoBulkEntry x + uptoBulkEntries r
def uptoBulkEntry {H : Type} : Lit × DataW H → Nat
  | (.string bytes, d) => bytes.length + uptoBulk d + 1
  | (_, d) => uptoBulk d + 1
 end
def uptoSmall : (H : Type) → List (DataW H) → Bool := fun _ ds => decide (uptoBulkAll ds ≤ 1048576)
def OpenSpec.upto (s : _root_.Go.ChangeSpec) : _root_.Go.OpenSpec := { _root_.Go.OpenSpec.ofChange s with cond := some uptoSmall }

/-- 'signallinglaw21.LocksOf', WHERE WHAT IT READS IS OF BULK AT MOST 1048576: true; the input reads as it did. -/
def locksOfUptoRow : OpenClaim := { program := "ytckkkfgjgjoemaa", sum := "6630181d79a12861c456b816c4d58520b753c6af9512b7143654f643d1b663eb", func := "signalling/signallinglaw21.LocksOf", spec := "locksOf", unfollowed := true, recurses := true, apart := false, narrowed := true }
def LocksOfUptoSaid : Prop := locksOfUptoRow.holds Try.pinned (OpenSpec.upto locksOfSpec)

/-- 'signallinglaw21.LocksSound', WHERE WHAT IT READS IS OF BULK AT MOST 1048576: true; the input reads as it did. -/
def locksSoundUptoRow : OpenClaim := { program := "ytckkkfgjgjoemaa", sum := "6630181d79a12861c456b816c4d58520b753c6af9512b7143654f643d1b663eb", func := "signalling/signallinglaw21.LocksSound", spec := "locksSound", unfollowed := true, recurses := true, apart := false, narrowed := true }
def LocksSoundUptoSaid : Prop := locksSoundUptoRow.holds Try.pinned (OpenSpec.upto locksSoundSpec)

/-- 'signallinglaw21.LocksFree', WHERE WHAT IT READS IS OF BULK AT MOST 1048576: true; the input reads as it did. -/
def locksFreeUptoRow : OpenClaim := { program := "ytckkkfgjgjoemaa", sum := "6630181d79a12861c456b816c4d58520b753c6af9512b7143654f643d1b663eb", func := "signalling/signallinglaw21.LocksFree", spec := "locksFree", unfollowed := true, recurses := true, apart := false, narrowed := true }
def LocksFreeUptoSaid : Prop := locksFreeUptoRow.holds Try.pinned (OpenSpec.upto locksFreeSpec)

/-- 'signallinglaw21.LocksRelease', WHERE WHAT IT READS IS OF BULK AT MOST 1048576: true; the input reads as it did. -/
def locksReleaseUptoRow : OpenClaim := { program := "ytckkkfgjgjoemaa", sum := "6630181d79a12861c456b816c4d58520b753c6af9512b7143654f643d1b663eb", func := "signalling/signallinglaw21.LocksRelease", spec := "locksRelease", unfollowed := true, recurses := true, apart := false, narrowed := true }
def LocksReleaseUptoSaid : Prop := locksReleaseUptoRow.holds Try.pinned (OpenSpec.upto locksReleaseSpec)

/-- 'signallinglaw21.LocksCall', WHERE WHAT IT READS IS OF BULK AT MOST 1048576: true; the input reads as it did. -/
def locksCallUptoRow : OpenClaim := { program := "ytckkkfgjgjoemaa", sum := "6630181d79a12861c456b816c4d58520b753c6af9512b7143654f643d1b663eb", func := "signalling/signallinglaw21.LocksCall", spec := "locksCall", unfollowed := true, recurses := true, apart := false, narrowed := true }
def LocksCallUptoSaid : Prop := locksCallUptoRow.holds Try.pinned (OpenSpec.upto locksCallSpec)

/-- 'signallinglaw21.LocksExclude', WHERE WHAT IT READS IS OF BULK AT MOST 1048576: true; the input reads as it did. -/
def locksExcludeUptoRow : OpenClaim := { program := "ytckkkfgjgjoemaa", sum := "6630181d79a12861c456b816c4d58520b753c6af9512b7143654f643d1b663eb", func := "signalling/signallinglaw21.LocksExclude", spec := "locksExclude", unfollowed := true, recurses := true, apart := false, narrowed := true }
def LocksExcludeUptoSaid : Prop := locksExcludeUptoRow.holds Try.pinned (OpenSpec.upto locksExcludeSpec)

end Rows
end Go.Proofs.Ytckkkfgjgjoemaa
