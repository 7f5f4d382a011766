/- FieldTakesTime: whatever the machines, the commands and the number of steps, a machine whose goal is changed is not detected during the next PointTime - 1 steps, and the law returns true, with its arguments as they were. No condition. -/
import Derived.Test.YtmjgelbhflmchaaFieldK
namespace Go.Proofs.Ytmjgelbhflmchaa
open Go Go.TL Go.ChangeShapes Go.WideShapes Go.ChangeAt Go.RowKit

theorem fieldTakesTime_holds_args {H : Type} (ds : List (DataW H)) (h : ds.length = Try.f6.params.toList.length) : Rows.fieldTakesTimeSpec.fn H ds = { results := [.lit (.bool true)], args := ds } := by
  have h : ds.length = 3 := h
  match ds, h with
  | [d0, d1, d2], _ => rfl
theorem fieldTakesTime_holds_true (ds : List D) (h : ArgsOk Try.prog Try.f6.params.toList ds) : Ret Try.prog 6 [] (fun _ => false) (ds.map .d) (.d (.bool true)) [] := by
  have h : ArgsOk Try.prog [22, 23, 3] ds := h
  match ds, h with
  | [_, _, _], ⟨⟨c0, _, t0, rfl⟩, ⟨⟨c1, _, t1, rfl⟩, ⟨⟨c2, _, t2, rfl⟩, _⟩⟩⟩ =>
      obtain ⟨ms, ⟨hl, hw⟩, e0⟩ := ty22 c0 t0
      obtain ⟨xs, ⟨hl2, hw2⟩, e1⟩ := ty23 c1 t1
      obtain ⟨n, hn, e2⟩ := ty3n' c2 t2
      simp only [e0, e1, e2]
      exact (fieldTakesTime_ret ms xs n hl2 hw hw2 _)
theorem fieldTakesTime_holds : Rows.FieldTakesTimeSaid :=
  OpenClaim.holds_of_wide 6 Try.f6 rfl rfl rfl rfl rfl rfl rfl ⟨rfl, rfl, rfl, rfl, rfl⟩ rfl rfl rfl rfl rfl (by kernel_rfl) Try.func6 (by kernel_rfl)
    (of_decide_eq_true (by kernel_rfl)) (by unfold Func.isWrapper; first | (rw [if_pos (by decide +kernel)]; kernel_rfl) | (rw [if_neg (by decide +kernel)]; exact ⟨rfl, rfl⟩))
    (fun os started H enc _ => law_lifted (C := Try.checked) os own started laidOut (by kernel_rfl) Try.func6
      (ChangeSpec.witness6 (enc := enc) (C := Try.checked) false ⟨#[], #[.slice none 0 0, .slice none 0 0, .int .i64 0], []⟩ 8 (by kernel_rfl) (by kernel_rfl) (by kernel_rfl) (by kernel_rfl)) (by kernel_rfl) rfl fieldTakesTime_holds_args fieldTakesTime_holds_true)

end Go.Proofs.Ytmjgelbhflmchaa
