/- FieldPlaces: whatever the points, the machines and the number, Start and Positions of the program are those of the reference, and the law returns true, with its arguments as they were. No condition. -/
import Derived.Test.YtmjgelbhflmchaaFieldG
namespace Go.Proofs.Ytmjgelbhflmchaa
open Go Go.TL Go.ChangeShapes Go.WideShapes Go.ChangeAt Go.RowKit

theorem ty3n (cs : List D) (h : HasTy Try.prog 3 cs) : ∃ n : Int, I64 n ∧ ofCellsD Try.prog 3 cs = .int .i64 n := by
  obtain ⟨x, rfl, wx⟩ := h.int_inv Try.underlying3
  exact ⟨x, wx, by simp [ofCellsD, Try.underlying3]⟩

theorem fieldPlaces_holds_args {H : Type} (ds : List (DataW H)) (h : ds.length = Try.f4.params.toList.length) : Rows.fieldPlacesSpec.fn H ds = { results := [.lit (.bool true)], args := ds } := by
  have h : ds.length = 3 := h
  match ds, h with
  | [d0, d1, d2], _ => rfl
theorem fieldPlaces_holds_true (ds : List D) (h : ArgsOk Try.prog Try.f4.params.toList ds) : Ret Try.prog 4 [] (fun _ => false) (ds.map .d) (.d (.bool true)) [] := by
  have h : ArgsOk Try.prog [23, 22, 3] ds := h
  match ds, h with
  | [_, _, _], ⟨⟨c0, _, t0, rfl⟩, ⟨⟨c1, _, t1, rfl⟩, ⟨⟨c2, _, t2, rfl⟩, _⟩⟩⟩ =>
      obtain ⟨xs, ⟨hl2, hw2⟩, e0⟩ := ty23 c0 t0
      obtain ⟨ms, ⟨hl, hw⟩, e1⟩ := ty22 c1 t1
      obtain ⟨n, hn, e2⟩ := ty3n c2 t2
      simp only [e0, e1, e2]
      exact (fieldPlaces_ret xs ms n hw _)
theorem fieldPlaces_holds : Rows.FieldPlacesSaid :=
  OpenClaim.holds_of_wide 4 Try.f4 rfl rfl rfl rfl rfl rfl rfl ⟨rfl, rfl, rfl, rfl, rfl⟩ rfl rfl rfl rfl rfl (by kernel_rfl) Try.func4 (by kernel_rfl)
    (of_decide_eq_true (by kernel_rfl)) (by unfold Func.isWrapper; first | (rw [if_pos (by decide +kernel)]; kernel_rfl) | (rw [if_neg (by decide +kernel)]; exact ⟨rfl, rfl⟩))
    (fun os started H enc _ => law_lifted (C := Try.checked) os own started laidOut (by kernel_rfl) Try.func4
      (ChangeSpec.witness6 (enc := enc) (C := Try.checked) false ⟨#[], #[.slice none 0 0, .slice none 0 0, .int .i64 0], []⟩ 8 (by kernel_rfl) (by kernel_rfl) (by kernel_rfl) (by kernel_rfl)) (by kernel_rfl) rfl fieldPlaces_holds_args fieldPlaces_holds_true)

end Go.Proofs.Ytmjgelbhflmchaa
