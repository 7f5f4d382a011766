/-
  NARROWER THAN 'FOR EVERY INPUT', by the rows' own cells (each row's printed sentence says how): CompilePrograms: laid · CompileInputs: laid · CompileStates: laid · CompileHalts: laid · CompileBegins: laid · CompileEquals: laid.
  DERIVED. THE GIVEN ROWS OF THIS SEAT. 6 by the template 'for every input the law returns true; each argument reads behind the call as it read before'; 0 by the template 'total and deterministic' (their statements: YtcagmechagiclaaGreatDoorTotals.lean).
  GIVEN WITH THE SEED: the statements are not yours to turn. If you find one false, say at which input.
  Laid BY PROGRAM, IN A SANDBOX (cutbox-rows.mjs): the forced cells as the released guide's own fill.sh prints them over the translation 53721d4aa5c2a44c… (all of the seat's roots in one cut). By AI agents, Wed Nov 11 2026. No macro, syntax, notation, axiom, sorry.
-/
import Derived.Test.YtcagmechagiclaaGreatDoorChecked
import GoSem.Claim
import GoSem.ClaimJoined
import GoSem.ClaimMapViews
import Derived.JoinedTies
import Derived.KernelRfl
namespace Go.Proofs.YtcagmechagiclaaGreatDoor
/- THE CELL 'sum', in the pinned program and in every row, IS THE sha256 OF THE DUMP (.gsa) THAT YtcagmechagiclaaGreatDoorProg.lean LOADS. Nothing in Lean hashes anything: it is a label: what it is worth is what the hold of that sum in a sandbox is worth. -/
noncomputable def Tryz.pinned : Pinned := { name := "ytcagmechagiclaagreatdoor", sum := "53721d4aa5c2a44c2bec7827412f2cd6644a25c0bbd0aca3c31ccd0c598be2d4", checked := Tryz.checked }
namespace Rows
def none {H : Type} : Left H := { results := [], args := [] }

/- WHAT THE LISTED PACKAGE-LEVEL VARIABLES READ AS WHEN THE CALL BEGINS. Each datum BY PROGRAM (the guide's laid-datum.mjs) off the statement by which the dump's own 'gosem.cut.vars' lays the variable. In a bare row this is a premise. The card (YtcagmechagiclaaGreatDoorCards.lean) ties it to the program's text. -/
def laid_math_bits_deBruijn32tab {H : Type} : DataW H := .agg [.lit (.int .u8 0), .lit (.int .u8 1), .lit (.int .u8 28), .lit (.int .u8 2), .lit (.int .u8 29), .lit (.int .u8 14), .lit (.int .u8 24), .lit (.int .u8 3), .lit (.int .u8 30), .lit (.int .u8 22), .lit (.int .u8 20), .lit (.int .u8 15), .lit (.int .u8 25), .lit (.int .u8 17), .lit (.int .u8 4), .lit (.int .u8 8), .lit (.int .u8 31), .lit (.int .u8 27), .lit (.int .u8 13), .lit (.int .u8 23), .lit (.int .u8 21), .lit (.int .u8 19), .lit (.int .u8 16), .lit (.int .u8 7), .lit (.int .u8 26), .lit (.int .u8 12), .lit (.int .u8 18), .lit (.int .u8 6), .lit (.int .u8 11), .lit (.int .u8 5), .lit (.int .u8 10), .lit (.int .u8 9)]
def laid_math_bits_deBruijn64tab {H : Type} : DataW H := .agg [.lit (.int .u8 0), .lit (.int .u8 1), .lit (.int .u8 56), .lit (.int .u8 2), .lit (.int .u8 57), .lit (.int .u8 49), .lit (.int .u8 28), .lit (.int .u8 3), .lit (.int .u8 61), .lit (.int .u8 58), .lit (.int .u8 42), .lit (.int .u8 50), .lit (.int .u8 38), .lit (.int .u8 29), .lit (.int .u8 17), .lit (.int .u8 4), .lit (.int .u8 62), .lit (.int .u8 47), .lit (.int .u8 59), .lit (.int .u8 36), .lit (.int .u8 45), .lit (.int .u8 43), .lit (.int .u8 51), .lit (.int .u8 22), .lit (.int .u8 53), .lit (.int .u8 39), .lit (.int .u8 33), .lit (.int .u8 30), .lit (.int .u8 24), .lit (.int .u8 18), .lit (.int .u8 12), .lit (.int .u8 5), .lit (.int .u8 63), .lit (.int .u8 55), .lit (.int .u8 48), .lit (.int .u8 27), .lit (.int .u8 60), .lit (.int .u8 41), .lit (.int .u8 37), .lit (.int .u8 16), .lit (.int .u8 46), .lit (.int .u8 35), .lit (.int .u8 44), .lit (.int .u8 21), .lit (.int .u8 52), .lit (.int .u8 32), .lit (.int .u8 23), .lit (.int .u8 11), .lit (.int .u8 54), .lit (.int .u8 26), .lit (.int .u8 40), .lit (.int .u8 15), .lit (.int .u8 34), .lit (.int .u8 20), .lit (.int .u8 31), .lit (.int .u8 10), .lit (.int .u8 25), .lit (.int .u8 14), .lit (.int .u8 19), .lit (.int .u8 9), .lit (.int .u8 13), .lit (.int .u8 8), .lit (.int .u8 7), .lit (.int .u8 6)]
def laid_internal_strconv_uint64pow10 {H : Type} : DataW H := .agg [.lit (.int .u64 1), .lit (.int .u64 10), .lit (.int .u64 100), .lit (.int .u64 1000), .lit (.int .u64 10000), .lit (.int .u64 100000), .lit (.int .u64 1000000), .lit (.int .u64 10000000), .lit (.int .u64 100000000), .lit (.int .u64 1000000000), .lit (.int .u64 10000000000), .lit (.int .u64 100000000000), .lit (.int .u64 1000000000000), .lit (.int .u64 10000000000000), .lit (.int .u64 100000000000000), .lit (.int .u64 1000000000000000), .lit (.int .u64 10000000000000000), .lit (.int .u64 100000000000000000), .lit (.int .u64 1000000000000000000), .lit (.int .u64 10000000000000000000)]

/-- 'signallinglaw24.CompilePrograms': WHATEVER THE INPUT: true; the input reads as it did. -/
def compileProgramsSpec : ChangeSpec := { name := "compilePrograms", fn := fun _ => fun
  | [d] => { results := [.lit (.bool true)], args := [d] }
  | _ => none }
def compileProgramsRow : OpenClaim := { program := "ytcagmechagiclaagreatdoor", sum := "53721d4aa5c2a44c2bec7827412f2cd6644a25c0bbd0aca3c31ccd0c598be2d4", func := "signalling/signallinglaw24.CompilePrograms", spec := "compilePrograms", unfollowed := true, recurses := true, named := ["internal/strconv.uint64pow10", "math/bits.deBruijn32tab", "math/bits.deBruijn64tab"], apart := false, laid := [("math/bits.deBruijn32tab", laid_math_bits_deBruijn32tab), ("math/bits.deBruijn64tab", laid_math_bits_deBruijn64tab), ("internal/strconv.uint64pow10", laid_internal_strconv_uint64pow10)] }
def CompileProgramsSaid : Prop := compileProgramsRow.holds Tryz.pinned (OpenSpec.ofChange compileProgramsSpec)

/-- ITS FALSE NEIGHBOUR: 'it returns false'. Refute it at one input. -/
def compileProgramsWrong : ChangeSpec := { name := "compilePrograms", fn := fun _ => fun
  | [d] => { results := [.lit (.bool false)], args := [d] }
  | _ => none }
def CompileProgramsWrongFalsely : Prop := compileProgramsRow.holds Tryz.pinned (OpenSpec.ofChange compileProgramsWrong)

/-- 'signallinglaw24.CompileInputs': WHATEVER THE INPUT: true; the input reads as it did. -/
def compileInputsSpec : ChangeSpec := { name := "compileInputs", fn := fun _ => fun
  | [d1, d2] => { results := [.lit (.bool true)], args := [d1, d2] }
  | _ => none }
def compileInputsRow : OpenClaim := { program := "ytcagmechagiclaagreatdoor", sum := "53721d4aa5c2a44c2bec7827412f2cd6644a25c0bbd0aca3c31ccd0c598be2d4", func := "signalling/signallinglaw24.CompileInputs", spec := "compileInputs", unfollowed := true, recurses := true, named := ["internal/strconv.uint64pow10", "math/bits.deBruijn32tab", "math/bits.deBruijn64tab"], apart := false, laid := [("math/bits.deBruijn32tab", laid_math_bits_deBruijn32tab), ("math/bits.deBruijn64tab", laid_math_bits_deBruijn64tab), ("internal/strconv.uint64pow10", laid_internal_strconv_uint64pow10)] }
def CompileInputsSaid : Prop := compileInputsRow.holds Tryz.pinned (OpenSpec.ofChange compileInputsSpec)

/-- ITS FALSE NEIGHBOUR: 'it returns false'. Refute it at one input. -/
def compileInputsWrong : ChangeSpec := { name := "compileInputs", fn := fun _ => fun
  | [d1, d2] => { results := [.lit (.bool false)], args := [d1, d2] }
  | _ => none }
def CompileInputsWrongFalsely : Prop := compileInputsRow.holds Tryz.pinned (OpenSpec.ofChange compileInputsWrong)

/-- 'signallinglaw24.CompileStates': WHATEVER THE INPUT: true; the input reads as it did. -/
def compileStatesSpec : ChangeSpec := { name := "compileStates", fn := fun _ => fun
  | [d1, d2] => { results := [.lit (.bool true)], args := [d1, d2] }
  | _ => none }
def compileStatesRow : OpenClaim := { program := "ytcagmechagiclaagreatdoor", sum := "53721d4aa5c2a44c2bec7827412f2cd6644a25c0bbd0aca3c31ccd0c598be2d4", func := "signalling/signallinglaw24.CompileStates", spec := "compileStates", unfollowed := true, recurses := true, named := ["internal/strconv.uint64pow10", "math/bits.deBruijn32tab", "math/bits.deBruijn64tab"], apart := false, laid := [("math/bits.deBruijn32tab", laid_math_bits_deBruijn32tab), ("math/bits.deBruijn64tab", laid_math_bits_deBruijn64tab), ("internal/strconv.uint64pow10", laid_internal_strconv_uint64pow10)] }
def CompileStatesSaid : Prop := compileStatesRow.holds Tryz.pinned (OpenSpec.ofChange compileStatesSpec)

/-- ITS FALSE NEIGHBOUR: 'it returns false'. Refute it at one input. -/
def compileStatesWrong : ChangeSpec := { name := "compileStates", fn := fun _ => fun
  | [d1, d2] => { results := [.lit (.bool false)], args := [d1, d2] }
  | _ => none }
def CompileStatesWrongFalsely : Prop := compileStatesRow.holds Tryz.pinned (OpenSpec.ofChange compileStatesWrong)

/-- 'signallinglaw24.CompileHalts': WHATEVER THE INPUT: true; the input reads as it did. -/
def compileHaltsSpec : ChangeSpec := { name := "compileHalts", fn := fun _ => fun
  | [d1, d2, d3] => { results := [.lit (.bool true)], args := [d1, d2, d3] }
  | _ => none }
def compileHaltsRow : OpenClaim := { program := "ytcagmechagiclaagreatdoor", sum := "53721d4aa5c2a44c2bec7827412f2cd6644a25c0bbd0aca3c31ccd0c598be2d4", func := "signalling/signallinglaw24.CompileHalts", spec := "compileHalts", unfollowed := true, recurses := true, named := ["internal/strconv.uint64pow10", "math/bits.deBruijn32tab", "math/bits.deBruijn64tab"], apart := false, laid := [("math/bits.deBruijn32tab", laid_math_bits_deBruijn32tab), ("math/bits.deBruijn64tab", laid_math_bits_deBruijn64tab), ("internal/strconv.uint64pow10", laid_internal_strconv_uint64pow10)] }
def CompileHaltsSaid : Prop := compileHaltsRow.holds Tryz.pinned (OpenSpec.ofChange compileHaltsSpec)

/-- ITS FALSE NEIGHBOUR: 'it returns false'. Refute it at one input. -/
def compileHaltsWrong : ChangeSpec := { name := "compileHalts", fn := fun _ => fun
  | [d1, d2, d3] => { results := [.lit (.bool false)], args := [d1, d2, d3] }
  | _ => none }
def CompileHaltsWrongFalsely : Prop := compileHaltsRow.holds Tryz.pinned (OpenSpec.ofChange compileHaltsWrong)

/-- 'signallinglaw24.CompileBegins': WHATEVER THE INPUT: true; the input reads as it did. -/
def compileBeginsSpec : ChangeSpec := { name := "compileBegins", fn := fun _ => fun
  | [d] => { results := [.lit (.bool true)], args := [d] }
  | _ => none }
def compileBeginsRow : OpenClaim := { program := "ytcagmechagiclaagreatdoor", sum := "53721d4aa5c2a44c2bec7827412f2cd6644a25c0bbd0aca3c31ccd0c598be2d4", func := "signalling/signallinglaw24.CompileBegins", spec := "compileBegins", unfollowed := true, recurses := true, named := ["internal/strconv.uint64pow10", "math/bits.deBruijn32tab", "math/bits.deBruijn64tab"], apart := false, laid := [("math/bits.deBruijn32tab", laid_math_bits_deBruijn32tab), ("math/bits.deBruijn64tab", laid_math_bits_deBruijn64tab), ("internal/strconv.uint64pow10", laid_internal_strconv_uint64pow10)] }
def CompileBeginsSaid : Prop := compileBeginsRow.holds Tryz.pinned (OpenSpec.ofChange compileBeginsSpec)

/-- ITS FALSE NEIGHBOUR: 'it returns false'. Refute it at one input. -/
def compileBeginsWrong : ChangeSpec := { name := "compileBegins", fn := fun _ => fun
  | [d] => { results := [.lit (.bool false)], args := [d] }
  | _ => none }
def CompileBeginsWrongFalsely : Prop := compileBeginsRow.holds Tryz.pinned (OpenSpec.ofChange compileBeginsWrong)

/-- 'signallinglaw24.CompileEquals': WHATEVER THE INPUT: true; the input reads as it did. -/
def compileEqualsSpec : ChangeSpec := { name := "compileEquals", fn := fun _ => fun
  | [d1, d2] => { results := [.lit (.bool true)], args := [d1, d2] }
  | _ => none }
def compileEqualsRow : OpenClaim := { program := "ytcagmechagiclaagreatdoor", sum := "53721d4aa5c2a44c2bec7827412f2cd6644a25c0bbd0aca3c31ccd0c598be2d4", func := "signalling/signallinglaw24.CompileEquals", spec := "compileEquals", unfollowed := true, recurses := true, named := ["internal/strconv.uint64pow10", "math/bits.deBruijn32tab", "math/bits.deBruijn64tab"], apart := false, laid := [("math/bits.deBruijn32tab", laid_math_bits_deBruijn32tab), ("math/bits.deBruijn64tab", laid_math_bits_deBruijn64tab), ("internal/strconv.uint64pow10", laid_internal_strconv_uint64pow10)] }
def CompileEqualsSaid : Prop := compileEqualsRow.holds Tryz.pinned (OpenSpec.ofChange compileEqualsSpec)

/-- ITS FALSE NEIGHBOUR: 'it returns false'. Refute it at one input. -/
def compileEqualsWrong : ChangeSpec := { name := "compileEquals", fn := fun _ => fun
  | [d1, d2] => { results := [.lit (.bool false)], args := [d1, d2] }
  | _ => none }
def CompileEqualsWrongFalsely : Prop := compileEqualsRow.holds Tryz.pinned (OpenSpec.ofChange compileEqualsWrong)

/- THE SECOND FORM. 'bulk': how many values and letters a reading holds, each counted each time it is reached (what is shared counts as often as it is met; a slice's spare places count too). A statement '..UptoSaid' is the law's where the arguments, and the package variables that the reading takes, are together of bulk at most 1048576: NARROWER than '..Said'. Prove '..Said' where nothing that the law and all that it calls make is longer than what came in: it says more and counts as full. Else prove '..UptoSaid'. A law counts once. -/
mutual
def uptoBulk {H : Type} : DataW H → Nat
  | .lit (.string bytes) => bytes.length + 1
  | .lit _ => 1
  | .nil => 1
  | .ptr d => uptoBulk d + 1
  | .slice elems spare => uptoBulkAll elems + uptoBulkAll spare + 1
  | .agg parts => uptoBulkAll parts + 1
  | .iface _ d => uptoBulk d + 1
  | .map entries => uptoBulkEntries entries + 1
  | .held _ => 1
def uptoBulkAll {H : Type} : List (DataW H) → Nat
  | [] => 0
  | d :: r => uptoBulk d + uptoBulkAll r
def uptoBulkEntries {H : Type} : List (Lit × DataW H) → Nat
  | [] => 0
  | x :: r => uptoBulkEntry x + uptoBulkEntries r
def uptoBulkEntry {H : Type} : Lit × DataW H → Nat
  | (.string bytes, d) => bytes.length + uptoBulk d + 1
  | (_, d) => uptoBulk d + 1
 end
def uptoSmall : (H : Type) → List (DataW H) → Bool := fun _ ds => decide (uptoBulkAll ds ≤ 1048576)
def OpenSpec.upto (s : _root_.Go.ChangeSpec) : _root_.Go.OpenSpec := { _root_.Go.OpenSpec.ofChange s with cond := some uptoSmall }

/-- 'signallinglaw24.CompilePrograms', WHERE WHAT IT READS IS OF BULK AT MOST 1048576: true; the input reads as it did. -/
def compileProgramsUptoRow : OpenClaim := { program := "ytcagmechagiclaagreatdoor", sum := "53721d4aa5c2a44c2bec7827412f2cd6644a25c0bbd0aca3c31ccd0c598be2d4", func := "signalling/signallinglaw24.CompilePrograms", spec := "compilePrograms", unfollowed := true, recurses := true, named := ["internal/strconv.uint64pow10", "math/bits.deBruijn32tab", "math/bits.deBruijn64tab"], apart := false, laid := [("math/bits.deBruijn32tab", laid_math_bits_deBruijn32tab), ("math/bits.deBruijn64tab", laid_math_bits_deBruijn64tab), ("internal/strconv.uint64pow10", laid_internal_strconv_uint64pow10)], narrowed := true }
def CompileProgramsUptoSaid : Prop := compileProgramsUptoRow.holds Tryz.pinned (OpenSpec.upto compileProgramsSpec)

/-- 'signallinglaw24.CompileInputs', WHERE WHAT IT READS IS OF BULK AT MOST 1048576: true; the input reads as it did. -/
def compileInputsUptoRow : OpenClaim := { program := "ytcagmechagiclaagreatdoor", sum := "53721d4aa5c2a44c2bec7827412f2cd6644a25c0bbd0aca3c31ccd0c598be2d4", func := "signalling/signallinglaw24.CompileInputs", spec := "compileInputs", unfollowed := true, recurses := true, named := ["internal/strconv.uint64pow10", "math/bits.deBruijn32tab", "math/bits.deBruijn64tab"], apart := false, laid := [("math/bits.deBruijn32tab", laid_math_bits_deBruijn32tab), ("math/bits.deBruijn64tab", laid_math_bits_deBruijn64tab), ("internal/strconv.uint64pow10", laid_internal_strconv_uint64pow10)], narrowed := true }
def CompileInputsUptoSaid : Prop := compileInputsUptoRow.holds Tryz.pinned (OpenSpec.upto compileInputsSpec)

/-- 'signallinglaw24.CompileStates', WHERE WHAT IT READS IS OF BULK AT MOST 1048576: true; the input reads as it did. -/
def compileStatesUptoRow : OpenClaim := { program := "ytcagmechagiclaagreatdoor", sum := "53721d4aa5c2a44c2bec7827412f2cd6644a25c0bbd0aca3c31ccd0c598be2d4", func := "signalling/signallinglaw24.CompileStates", spec := "compileStates", unfollowed := true, recurses := true, named := ["internal/strconv.uint64pow10", "math/bits.deBruijn32tab", "math/bits.deBruijn64tab"], apart := false, laid := [("math/bits.deBruijn32tab", laid_math_bits_deBruijn32tab), ("math/bits.deBruijn64tab", laid_math_bits_deBruijn64tab), ("internal/strconv.uint64pow10", laid_internal_strconv_uint64pow10)], narrowed := true }
def CompileStatesUptoSaid : Prop := compileStatesUptoRow.holds Tryz.pinned (OpenSpec.upto compileStatesSpec)

/-- 'signallinglaw24.CompileHalts', WHERE WHAT IT READS IS OF BULK AT MOST 1048576: true; the input reads as it did. -/
def compileHaltsUptoRow : OpenClaim := { program := "ytcagmechagiclaagreatdoor", sum := "53721d4aa5c2a44c2bec7827412f2cd6644a25c0bbd0aca3c31ccd0c598be2d4", func := "signalling/signallinglaw24.CompileHalts", spec := "compileHalts", unfollowed := true, recurses := true, named := ["internal/strconv.uint64pow10", "math/bits.deBruijn32tab", "math/bits.deBruijn64tab"], apart := false, laid := [("math/bits.deBruijn32tab", laid_math_bits_deBruijn32tab), ("math/bits.deBruijn64tab", laid_math_bits_deBruijn64tab), ("internal/strconv.uint64pow10", laid_internal_strconv_uint64pow10)], narrowed := true }
def CompileHaltsUptoSaid : Prop := compileHaltsUptoRow.holds Tryz.pinned (OpenSpec.upto compileHaltsSpec)

/-- 'signallinglaw24.CompileBegins', WHERE WHAT IT READS IS OF BULK AT MOST 1048576: true; the input reads as it did. -/
def compileBeginsUptoRow : OpenClaim := { program := "ytcagmechagiclaagreatdoor", sum := "53721d4aa5c2a44c2bec7827412f2cd6644a25c0bbd0aca3c31ccd0c598be2d4", func := "signalling/signallinglaw24.CompileBegins", spec := "compileBegins", unfollowed := true, recurses := true, named := ["internal/strconv.uint64pow10", "math/bits.deBruijn32tab", "math/bits.deBruijn64tab"], apart := false, laid := [("math/bits.deBruijn32tab", laid_math_bits_deBruijn32tab), ("math/bits.deBruijn64tab", laid_math_bits_deBruijn64tab), ("internal/strconv.uint64pow10", laid_internal_strconv_uint64pow10)], narrowed := true }
def CompileBeginsUptoSaid : Prop := compileBeginsUptoRow.holds Tryz.pinned (OpenSpec.upto compileBeginsSpec)

/-- 'signallinglaw24.CompileEquals', WHERE WHAT IT READS IS OF BULK AT MOST 1048576: true; the input reads as it did. -/
def compileEqualsUptoRow : OpenClaim := { program := "ytcagmechagiclaagreatdoor", sum := "53721d4aa5c2a44c2bec7827412f2cd6644a25c0bbd0aca3c31ccd0c598be2d4", func := "signalling/signallinglaw24.CompileEquals", spec := "compileEquals", unfollowed := true, recurses := true, named := ["internal/strconv.uint64pow10", "math/bits.deBruijn32tab", "math/bits.deBruijn64tab"], apart := false, laid := [("math/bits.deBruijn32tab", laid_math_bits_deBruijn32tab), ("math/bits.deBruijn64tab", laid_math_bits_deBruijn64tab), ("internal/strconv.uint64pow10", laid_internal_strconv_uint64pow10)], narrowed := true }
def CompileEqualsUptoSaid : Prop := compileEqualsUptoRow.holds Tryz.pinned (OpenSpec.upto compileEqualsSpec)

end Rows
end Go.Proofs.YtcagmechagiclaaGreatDoor
