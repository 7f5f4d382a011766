/-
  NARROWER THAN 'FOR EVERY INPUT', by the rows' own cells (each row's printed sentence says how): PlcChecks: loops · PlcStarts: loops · PlcScans: loops · PlcHaltsSafe: loops · PlcRuns: loops.
  DERIVED. THE GIVEN ROWS OF THIS SEAT. 6 by the template 'for every input the law returns true; each argument reads behind the call as it read before'; 0 by the template 'total and deterministic' (their statements: YteedddlipoonoaaTotals.lean).
  GIVEN WITH THE SEED: the statements are not yours to turn. If you find one false, say at which input.
  Laid BY PROGRAM, IN A SANDBOX (cutbox-rows.mjs): the forced cells as the released guide's own fill.sh prints them over the translation 74b576dda0c4afc4… (all of the seat's roots in one cut). By AI agents, Wed Nov 11 2026. No macro, syntax, notation, axiom, sorry.
-/
import Derived.Test.YteedddlipoonoaaChecked
import GoSem.Claim
import GoSem.ClaimJoined
import GoSem.ClaimMapViews
import Derived.JoinedTies
import Derived.KernelRfl
namespace Go.Proofs.Yteedddlipoonoaa
/- THE CELL 'sum', in the pinned program and in every row, IS THE sha256 OF THE DUMP (.gsa) THAT YteedddlipoonoaaProg.lean LOADS. Nothing in Lean hashes anything: it is a label: what it is worth is what the hold of that sum in a sandbox is worth. -/
noncomputable def Try.pinned : Pinned := { name := "yteedddlipoonoaa", sum := "74b576dda0c4afc4013507e6f08f5209d134ce8e54cada7d7623127bd2a62cb3", checked := Try.checked }
namespace Rows
def none {H : Type} : Left H := { results := [], args := [] }

/-- 'signallinglaw20.PlcChecks': WHATEVER THE INPUT: true; the input reads as it did. -/
def plcChecksSpec : ChangeSpec := { name := "plcChecks", fn := fun _ => fun
  | [d] => { results := [.lit (.bool true)], args := [d] }
  | _ => none }
def plcChecksRow : OpenClaim := { program := "yteedddlipoonoaa", sum := "74b576dda0c4afc4013507e6f08f5209d134ce8e54cada7d7623127bd2a62cb3", func := "signalling/signallinglaw20.PlcChecks", spec := "plcChecks", unfollowed := true, recurses := true, loops := true, apart := false }
def PlcChecksSaid : Prop := plcChecksRow.holds Try.pinned (OpenSpec.ofChange plcChecksSpec)

/-- ITS FALSE NEIGHBOUR: 'it returns false'. Refute it at one input. -/
def plcChecksWrong : ChangeSpec := { name := "plcChecks", fn := fun _ => fun
  | [d] => { results := [.lit (.bool false)], args := [d] }
  | _ => none }
def PlcChecksWrongFalsely : Prop := plcChecksRow.holds Try.pinned (OpenSpec.ofChange plcChecksWrong)

/-- 'signallinglaw20.PlcStarts': WHATEVER THE INPUT: true; the input reads as it did. -/
def plcStartsSpec : ChangeSpec := { name := "plcStarts", fn := fun _ => fun
  | [d1, d2, d3] => { results := [.lit (.bool true)], args := [d1, d2, d3] }
  | _ => none }
def plcStartsRow : OpenClaim := { program := "yteedddlipoonoaa", sum := "74b576dda0c4afc4013507e6f08f5209d134ce8e54cada7d7623127bd2a62cb3", func := "signalling/signallinglaw20.PlcStarts", spec := "plcStarts", unfollowed := true, recurses := true, loops := true, apart := false }
def PlcStartsSaid : Prop := plcStartsRow.holds Try.pinned (OpenSpec.ofChange plcStartsSpec)

/-- ITS FALSE NEIGHBOUR: 'it returns false'. Refute it at one input. -/
def plcStartsWrong : ChangeSpec := { name := "plcStarts", fn := fun _ => fun
  | [d1, d2, d3] => { results := [.lit (.bool false)], args := [d1, d2, d3] }
  | _ => none }
def PlcStartsWrongFalsely : Prop := plcStartsRow.holds Try.pinned (OpenSpec.ofChange plcStartsWrong)

/-- 'signallinglaw20.PlcScans': WHATEVER THE INPUT: true; the input reads as it did. -/
def plcScansSpec : ChangeSpec := { name := "plcScans", fn := fun _ => fun
  | [d1, d2, d3] => { results := [.lit (.bool true)], args := [d1, d2, d3] }
  | _ => none }
def plcScansRow : OpenClaim := { program := "yteedddlipoonoaa", sum := "74b576dda0c4afc4013507e6f08f5209d134ce8e54cada7d7623127bd2a62cb3", func := "signalling/signallinglaw20.PlcScans", spec := "plcScans", unfollowed := true, recurses := true, loops := true, apart := false }
def PlcScansSaid : Prop := plcScansRow.holds Try.pinned (OpenSpec.ofChange plcScansSpec)

/-- ITS FALSE NEIGHBOUR: 'it returns false'. Refute it at one input. -/
def plcScansWrong : ChangeSpec := { name := "plcScans", fn := fun _ => fun
  | [d1, d2, d3] => { results := [.lit (.bool false)], args := [d1, d2, d3] }
  | _ => none }
def PlcScansWrongFalsely : Prop := plcScansRow.holds Try.pinned (OpenSpec.ofChange plcScansWrong)

/-- 'signallinglaw20.PlcHaltsSafe': WHATEVER THE INPUT: true; the input reads as it did. -/
def plcHaltsSafeSpec : ChangeSpec := { name := "plcHaltsSafe", fn := fun _ => fun
  | [d1, d2, d3] => { results := [.lit (.bool true)], args := [d1, d2, d3] }
  | _ => none }
def plcHaltsSafeRow : OpenClaim := { program := "yteedddlipoonoaa", sum := "74b576dda0c4afc4013507e6f08f5209d134ce8e54cada7d7623127bd2a62cb3", func := "signalling/signallinglaw20.PlcHaltsSafe", spec := "plcHaltsSafe", unfollowed := true, recurses := true, loops := true, apart := false }
def PlcHaltsSafeSaid : Prop := plcHaltsSafeRow.holds Try.pinned (OpenSpec.ofChange plcHaltsSafeSpec)

/-- ITS FALSE NEIGHBOUR: 'it returns false'. Refute it at one input. -/
def plcHaltsSafeWrong : ChangeSpec := { name := "plcHaltsSafe", fn := fun _ => fun
  | [d1, d2, d3] => { results := [.lit (.bool false)], args := [d1, d2, d3] }
  | _ => none }
def PlcHaltsSafeWrongFalsely : Prop := plcHaltsSafeRow.holds Try.pinned (OpenSpec.ofChange plcHaltsSafeWrong)

/-- 'signallinglaw20.PlcRuns': WHATEVER THE INPUT: true; the input reads as it did. -/
def plcRunsSpec : ChangeSpec := { name := "plcRuns", fn := fun _ => fun
  | [d1, d2] => { results := [.lit (.bool true)], args := [d1, d2] }
  | _ => none }
def plcRunsRow : OpenClaim := { program := "yteedddlipoonoaa", sum := "74b576dda0c4afc4013507e6f08f5209d134ce8e54cada7d7623127bd2a62cb3", func := "signalling/signallinglaw20.PlcRuns", spec := "plcRuns", unfollowed := true, recurses := true, loops := true, apart := false }
def PlcRunsSaid : Prop := plcRunsRow.holds Try.pinned (OpenSpec.ofChange plcRunsSpec)

/-- ITS FALSE NEIGHBOUR: 'it returns false'. Refute it at one input. -/
def plcRunsWrong : ChangeSpec := { name := "plcRuns", fn := fun _ => fun
  | [d1, d2] => { results := [.lit (.bool false)], args := [d1, d2] }
  | _ => none }
def PlcRunsWrongFalsely : Prop := plcRunsRow.holds Try.pinned (OpenSpec.ofChange plcRunsWrong)

/-- 'signallinglaw20.PlcTimers': WHATEVER THE INPUT: true; the input reads as it did. -/
def plcTimersSpec : ChangeSpec := { name := "plcTimers", fn := fun _ => fun
  | [d1, d2] => { results := [.lit (.bool true)], args := [d1, d2] }
  | _ => none }
def plcTimersRow : OpenClaim := { program := "yteedddlipoonoaa", sum := "74b576dda0c4afc4013507e6f08f5209d134ce8e54cada7d7623127bd2a62cb3", func := "signalling/signallinglaw20.PlcTimers", spec := "plcTimers", unfollowed := true, recurses := true, apart := false }
def PlcTimersSaid : Prop := plcTimersRow.holds Try.pinned (OpenSpec.ofChange plcTimersSpec)

/-- ITS FALSE NEIGHBOUR: 'it returns false'. Refute it at one input. -/
def plcTimersWrong : ChangeSpec := { name := "plcTimers", fn := fun _ => fun
  | [d1, d2] => { results := [.lit (.bool false)], args := [d1, d2] }
  | _ => none }
def PlcTimersWrongFalsely : Prop := plcTimersRow.holds Try.pinned (OpenSpec.ofChange plcTimersWrong)

/- THE SECOND FORM. 'bulk': how many values and letters a reading holds, each counted each time it is reached (what is shared counts as often as it is met; a slice's spare places count too). A statement '..UptoSaid' is the law's where the arguments, and the package variables that the reading takes, are together of bulk at most 1048576: NARROWER than '..Said'. Prove '..Said' where nothing that the law and all that it calls make is longer than what came in: it says more and counts as full. Else prove '..UptoSaid'. A law counts once. -/
mutual
def uptoBulk {H : Type} : DataW H → Nat
  | .lit (.string bytes) => bytes.length + 1
  | .lit _ => 1
  | .nil => 1
  | .ptr d => uptoBulk d + 1
  | .slice elems spare => uptoBulkAll elems + uptoBulkAll spare + 1
  | .agg parts => uptoBulkAll parts + 1
  | .iface _ d => uptoBulk d + 1
  | .map entries => uptoBulkEntries entries + 1
  | .held _ => 1
def uptoBulkAll {H : Type} : List (DataW H) → Nat
  | [] => 0
  | d :: r => uptoBulk d + uptoBulkAll r
def uptoBulkEntries {H : Type} : List (Lit × DataW H) → Nat
  | [] => 0
  | x :: r => uptoBulkEntry x + uptoBulkEntries r
def uptoBulkEntry {H : Type} : Lit × DataW H → Nat
  | (.string bytes, d) => bytes.length + uptoBulk d + 1
  | (_, d) => uptoBulk d + 1
 end
def uptoSmall : (H : Type) → List (DataW H) → Bool := fun _ ds => decide (uptoBulkAll ds ≤ 1048576)
def OpenSpec.upto (s : _root_.Go.ChangeSpec) : _root_.Go.OpenSpec := { _root_.Go.OpenSpec.ofChange s with cond := some uptoSmall }

/-- 'signallinglaw20.PlcChecks', WHERE WHAT IT READS IS OF BULK AT MOST 1048576: true; the input reads as it did. -/
def plcChecksUptoRow : OpenClaim := { program := "yteedddlipoonoaa", sum := "74b576dda0c4afc4013507e6f08f5209d134ce8e54cada7d7623127bd2a62cb3", func := "signalling/signallinglaw20.PlcChecks", spec := "plcChecks", unfollowed := true, recurses := true, loops := true, apart := false, narrowed := true }
def PlcChecksUptoSaid : Prop := plcChecksUptoRow.holds Try.pinned (OpenSpec.upto plcChecksSpec)

/-- 'signallinglaw20.PlcStarts', WHERE WHAT IT READS IS OF BULK AT MOST 1048576: true; the input reads as it did. -/
def plcStartsUptoRow : OpenClaim := { program := "yteedddlipoonoaa", sum := "74b576dda0c4afc4013507e6f08f5209d134ce8e54cada7d7623127bd2a62cb3", func := "signalling/signallinglaw20.PlcStarts", spec := "plcStarts", unfollowed := true, recurses := true, loops := true, apart := false, narrowed := true }
def PlcStartsUptoSaid : Prop := plcStartsUptoRow.holds Try.pinned (OpenSpec.upto plcStartsSpec)

/-- 'signallinglaw20.PlcScans', WHERE WHAT IT READS IS OF BULK AT MOST 1048576: true; the input reads as it did. -/
def plcScansUptoRow : OpenClaim := { program := "yteedddlipoonoaa", sum := "74b576dda0c4afc4013507e6f08f5209d134ce8e54cada7d7623127bd2a62cb3", func := "signalling/signallinglaw20.PlcScans", spec := "plcScans", unfollowed := true, recurses := true, loops := true, apart := false, narrowed := true }
def PlcScansUptoSaid : Prop := plcScansUptoRow.holds Try.pinned (OpenSpec.upto plcScansSpec)

/-- 'signallinglaw20.PlcHaltsSafe', WHERE WHAT IT READS IS OF BULK AT MOST 1048576: true; the input reads as it did. -/
def plcHaltsSafeUptoRow : OpenClaim := { program := "yteedddlipoonoaa", sum := "74b576dda0c4afc4013507e6f08f5209d134ce8e54cada7d7623127bd2a62cb3", func := "signalling/signallinglaw20.PlcHaltsSafe", spec := "plcHaltsSafe", unfollowed := true, recurses := true, loops := true, apart := false, narrowed := true }
def PlcHaltsSafeUptoSaid : Prop := plcHaltsSafeUptoRow.holds Try.pinned (OpenSpec.upto plcHaltsSafeSpec)

/-- 'signallinglaw20.PlcRuns', WHERE WHAT IT READS IS OF BULK AT MOST 1048576: true; the input reads as it did. -/
def plcRunsUptoRow : OpenClaim := { program := "yteedddlipoonoaa", sum := "74b576dda0c4afc4013507e6f08f5209d134ce8e54cada7d7623127bd2a62cb3", func := "signalling/signallinglaw20.PlcRuns", spec := "plcRuns", unfollowed := true, recurses := true, loops := true, apart := false, narrowed := true }
def PlcRunsUptoSaid : Prop := plcRunsUptoRow.holds Try.pinned (OpenSpec.upto plcRunsSpec)

/-- 'signallinglaw20.PlcTimers', WHERE WHAT IT READS IS OF BULK AT MOST 1048576: true; the input reads as it did. -/
def plcTimersUptoRow : OpenClaim := { program := "yteedddlipoonoaa", sum := "74b576dda0c4afc4013507e6f08f5209d134ce8e54cada7d7623127bd2a62cb3", func := "signalling/signallinglaw20.PlcTimers", spec := "plcTimers", unfollowed := true, recurses := true, apart := false, narrowed := true }
def PlcTimersUptoSaid : Prop := plcTimersUptoRow.holds Try.pinned (OpenSpec.upto plcTimersSpec)

end Rows
end Go.Proofs.Yteedddlipoonoaa
