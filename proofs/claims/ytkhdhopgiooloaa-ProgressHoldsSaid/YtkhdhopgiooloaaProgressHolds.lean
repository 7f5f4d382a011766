/- ProgressHolds returns true for every input. No condition. -/
import Derived.Test.YtkhdhopgiooloaaQo
import Derived.Test.YtkhdhopgiooloaaRows
import Derived.ProofKit
import Derived.OpenShut
import Derived.JoinedCond
set_option maxHeartbeats 8000000
set_option linter.unusedSimpArgs false
set_option linter.unusedVariables false
set_option maxRecDepth 20000
namespace Go.Proofs.Ytkhdhopgiooloaa
open Go Go.TL Go.ChangeShapes Go.WideShapes Go.RowKit Go.ChangeAt

theorem progressHolds_holds_args {H : Type} (ds : List (DataW H)) (h : ds.length = Try.f4.params.toList.length) : Rows.progressHoldsSpec.fn H ds = { results := [.lit (.bool true)], args := ds } := by
  have h : ds.length = 4 := h
  match ds, h with
  | [d0, d1, d2, d3], _ => rfl
theorem progressHolds_holds_true (ds : List D) (h : ArgsOk Try.prog Try.f4.params.toList ds) : Ret Try.prog 4 [] (fun _ => false) (ds.map .d) (.d (.bool true)) [] := by
  have h : ArgsOk Try.prog [25, 28, 31, 3] ds := h
  match ds, h with
  | [_, _, _, _], ⟨⟨c0, _, t0, rfl⟩, ⟨⟨c1, _, t1, rfl⟩, ⟨⟨c2, _, t2, rfl⟩, ⟨⟨c3, _, t3, rfl⟩, _⟩⟩⟩⟩ =>
      obtain ⟨x0, w0, e0⟩ := ty25 c0 t0
      obtain ⟨x1, w1, e1⟩ := ty28 c1 t1
      obtain ⟨x2, w2, e2⟩ := ty31 c2 t2
      obtain ⟨x3, w3, e3⟩ := ty3 c3 t3
      simp only [e0, e1, e2, e3]
      exact law22_ProgressHolds_w (holds_law w0 w1 w2 w3)
theorem progressHolds_holds : Rows.ProgressHoldsSaid :=
  OpenClaim.holds_of_wide 4 Try.f4 rfl rfl rfl rfl rfl rfl rfl ⟨rfl, rfl, rfl, rfl, rfl⟩ rfl rfl rfl rfl rfl (by kernel_rfl) Try.func4 (by kernel_rfl)
    (of_decide_eq_true (by kernel_rfl)) (by unfold Func.isWrapper; first | (rw [if_pos (by decide +kernel)]; kernel_rfl) | (rw [if_neg (by decide +kernel)]; exact ⟨rfl, rfl⟩))
    (fun os started H enc _ => law_lifted [25, 22, 50, 9, 3, 47, 66, 40, 43, 23, 48, 134, 28, 26, 36, 31, 29, 4] (C := Try.checked) os own started laidOut (by kernel_rfl) Try.func4
      (ChangeSpec.witness6 (enc := enc) (C := Try.checked) false ⟨#[], #[Go.Value.agg #[Go.Value.slice Option.none 0 0, Go.Value.slice Option.none 0 0, Go.Value.slice Option.none 0 0, Go.Value.int Go.IntKind.i64 0, Go.Value.int Go.IntKind.i64 0], Go.Value.agg #[Go.Value.slice Option.none 0 0, Go.Value.slice Option.none 0 0], Go.Value.agg #[Go.Value.slice Option.none 0 0, Go.Value.slice Option.none 0 0, Go.Value.slice Option.none 0 0, Go.Value.slice Option.none 0 0, Go.Value.slice Option.none 0 0, Go.Value.slice Option.none 0 0, Go.Value.slice Option.none 0 0], Go.Value.int Go.IntKind.i64 0], []⟩ 8 (by kernel_rfl) (by kernel_rfl) (by kernel_rfl) (by kernel_rfl)) (by kernel_rfl) rfl progressHolds_holds_args progressHolds_holds_true)

end Go.Proofs.Ytkhdhopgiooloaa
