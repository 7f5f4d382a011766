/- FieldRests: whatever the machines, a command with the goals of all machines changes nothing, and the law returns true, with its argument as it was. No condition. -/
import Derived.Test.YtmjgelbhflmchaaFieldK
namespace Go.Proofs.Ytmjgelbhflmchaa
open Go Go.TL Go.ChangeShapes Go.WideShapes Go.ChangeAt Go.RowKit

theorem fieldRests_holds_args {H : Type} (ds : List (DataW H)) (h : ds.length = Try.f7.params.toList.length) : Rows.fieldRestsSpec.fn H ds = { results := [.lit (.bool true)], args := ds } := by
  have h : ds.length = 1 := h
  match ds, h with
  | [d0], _ => rfl
theorem fieldRests_holds_true (ds : List D) (h : ArgsOk Try.prog Try.f7.params.toList ds) : Ret Try.prog 7 [] (fun _ => false) (ds.map .d) (.d (.bool true)) [] := by
  have h : ArgsOk Try.prog [22] ds := h
  match ds, h with
  | [_], ⟨⟨c0, _, t0, rfl⟩, _⟩ =>
      obtain ⟨ms, ⟨hl, hw⟩, e0⟩ := ty22 c0 t0
      simp only [e0]
      exact (fieldRests_ret ms hw _)
theorem fieldRests_holds : Rows.FieldRestsSaid :=
  OpenClaim.holds_of_wide 7 Try.f7 rfl rfl rfl rfl rfl rfl rfl ⟨rfl, rfl, rfl, rfl, rfl⟩ rfl rfl rfl rfl rfl (by kernel_rfl) Try.func7 (by kernel_rfl)
    (of_decide_eq_true (by kernel_rfl)) (by unfold Func.isWrapper; first | (rw [if_pos (by decide +kernel)]; kernel_rfl) | (rw [if_neg (by decide +kernel)]; exact ⟨rfl, rfl⟩))
    (fun os started H enc _ => law_lifted (C := Try.checked) os own started laidOut (by kernel_rfl) Try.func7
      (ChangeSpec.witness6 (enc := enc) (C := Try.checked) false ⟨#[], #[.slice none 0 0], []⟩ 8 (by kernel_rfl) (by kernel_rfl) (by kernel_rfl) (by kernel_rfl)) (by kernel_rfl) rfl fieldRests_holds_args fieldRests_holds_true)

end Go.Proofs.Ytmjgelbhflmchaa
