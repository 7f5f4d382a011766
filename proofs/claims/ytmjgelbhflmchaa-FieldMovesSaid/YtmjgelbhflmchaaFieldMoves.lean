/- FieldMoves: whatever the machines and the commands, Command, Step and Detected of the program are those of the reference, and the law returns true, with its arguments as they were. No condition. -/
import Derived.Test.YtmjgelbhflmchaaFieldG
namespace Go.Proofs.Ytmjgelbhflmchaa
open Go Go.TL Go.ChangeShapes Go.WideShapes Go.ChangeAt Go.RowKit

theorem fieldMoves_holds_args {H : Type} (ds : List (DataW H)) (h : ds.length = Try.f3.params.toList.length) : Rows.fieldMovesSpec.fn H ds = { results := [.lit (.bool true)], args := ds } := by
  have h : ds.length = 2 := h
  match ds, h with
  | [d0, d1], _ => rfl
theorem fieldMoves_holds_true (ds : List D) (h : ArgsOk Try.prog Try.f3.params.toList ds) : Ret Try.prog 3 [] (fun _ => false) (ds.map .d) (.d (.bool true)) [] := by
  have h : ArgsOk Try.prog [22, 23] ds := h
  match ds, h with
  | [_, _], ⟨⟨c0, _, t0, rfl⟩, ⟨⟨c1, _, t1, rfl⟩, _⟩⟩ =>
      obtain ⟨ms, ⟨hl, hw⟩, e0⟩ := ty22 c0 t0
      obtain ⟨xs, ⟨hl2, hw2⟩, e1⟩ := ty23 c1 t1
      simp only [e0, e1]
      exact (fieldMoves_ret ms xs hl2 hw hw2 _)
theorem fieldMoves_holds : Rows.FieldMovesSaid :=
  OpenClaim.holds_of_wide 3 Try.f3 rfl rfl rfl rfl rfl rfl rfl ⟨rfl, rfl, rfl, rfl, rfl⟩ rfl rfl rfl rfl rfl (by kernel_rfl) Try.func3 (by kernel_rfl)
    (of_decide_eq_true (by kernel_rfl)) (by unfold Func.isWrapper; first | (rw [if_pos (by decide +kernel)]; kernel_rfl) | (rw [if_neg (by decide +kernel)]; exact ⟨rfl, rfl⟩))
    (fun os started H enc _ => law_lifted (C := Try.checked) os own started laidOut (by kernel_rfl) Try.func3
      (ChangeSpec.witness6 (enc := enc) (C := Try.checked) false ⟨#[], #[.slice none 0 0, .slice none 0 0], []⟩ 8 (by kernel_rfl) (by kernel_rfl) (by kernel_rfl) (by kernel_rfl)) (by kernel_rfl) rfl fieldMoves_holds_args fieldMoves_holds_true)

end Go.Proofs.Ytmjgelbhflmchaa
