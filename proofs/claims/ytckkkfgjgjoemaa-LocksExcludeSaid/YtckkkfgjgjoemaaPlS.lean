/- What table.Settings sorts by. No condition. -/
import Derived.Test.YtckkkfgjgjoemaaGnM
import Derived.Test.YtckkkfgjgjoemaaPlA
set_option linter.unusedSimpArgs false
set_option linter.unusedVariables false
namespace Go.Proofs.Ytckkkfgjgjoemaa
open Go Go.TL

def sgn (x y : Int) : Int := if x < y then -1 else if y < x then 1 else 0

theorem compare_eq (x y : Int) : cmp_Compare_int x y = some (sgn x y) := by
  simp only [cmp_Compare_int, cmp_isNaN_int, decide_true, Bool.not_true, bindM_some, Bool.false_eq_true, if_false, sgn]
  split
  · rfl
  · split <;> rfl

theorem or_eq (x y : Int) : cmp_Or_int [x, y] = some (if x = 0 then y else x) := by
  unfold cmp_Or_int
  by_cases hx : x = 0
  · by_cases hy : y = 0
    · rw [loopM_of (n := 3) (r := (.inl () : Unit ⊕ Int)) (by simp [iterM, getM, guardM, I64, hx, hy, inrM]) (by decide)]
      simp [bindS, hx, hy]
    · rw [loopM_of (n := 3) (r := (.inr y : Unit ⊕ Int)) (by simp [iterM, getM, guardM, I64, hx, hy, inrM]) (by decide)]
      simp [bindS, hx]
  · rw [loopM_of (n := 3) (r := (.inr x : Unit ⊕ Int)) (by simp [iterM, getM, guardM, I64, hx, inrM]) (by decide)]
    simp [bindS, hx]

theorem settings_c1_eq (x y : Setting) : table_Settings_c1 x y = some (if sgn x.el y.el = 0 then sgn x.pos y.pos else sgn x.el y.el) := by
  simp only [table_Settings_c1, compare_eq, bindM_some, or_eq]

theorem table_Settings_c1_sort : SortOk table_Settings_c1 := by
  have hl : ∀ x y, ltM table_Settings_c1 x y = decide (x.el < y.el ∨ x.el = y.el ∧ x.pos < y.pos) := by
    intro x y
    simp only [ltM, settings_c1_eq, Option.getD_some, sgn]
    rw [decide_eq_decide]
    split <;> split <;> (try split) <;> (try split) <;> omega
  refine ⟨fun x y => ⟨_, settings_c1_eq x y⟩, fun x => ?_, fun x y z h1 h2 => ?_, fun x y z h1 h2 => ?_, fun x y h1 h2 => ?_⟩
  · rw [hl]; simp
  · rw [hl, decide_eq_true_eq] at *; omega
  · rw [hl, decide_eq_false_iff_not] at *; omega
  · rw [hl, decide_eq_false_iff_not] at *
    obtain ⟨a, b⟩ := x; obtain ⟨c, d⟩ := y
    simp only at h1 h2
    have h3 : a = c := by omega
    have h4 : b = d := by omega
    rw [h3, h4]

end Go.Proofs.Ytckkkfgjgjoemaa
