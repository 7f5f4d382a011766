/- InterlockProves returns true for every input. No condition. -/
import Derived.Test.YtdhicpmpefkojaaGreatQp
import Derived.Test.YtdhicpmpefkojaaGreatRows
import Derived.ProofKit
import Derived.OpenShut
import Derived.JoinedCond
set_option maxHeartbeats 8000000
set_option linter.unusedSimpArgs false
set_option linter.unusedVariables false
set_option maxRecDepth 20000
namespace Go.Proofs.YtdhicpmpefkojaaGreat
open Go Go.TL Go.ChangeShapes Go.WideShapes Go.RowKit Go.ChangeAt

theorem interlockProves_holds_args {H : Type} (ds : List (DataW H)) (h : ds.length = Tryz.f5.params.toList.length) : Rows.interlockProvesSpec.fn H ds = { results := [.lit (.bool true)], args := ds } := by
  have h : ds.length = 3 := h
  match ds, h with
  | [d0, d1, d2], _ => rfl
theorem interlockProves_holds_true (ds : List D) (h : ArgsOk Tryz.prog Tryz.f5.params.toList ds) : Ret Tryz.prog 5 [] (fun _ => false) (ds.map .d) (.d (.bool true)) [] := by
  have h : ArgsOk Tryz.prog [25, 28, 31] ds := h
  match ds, h with
  | [_, _, _], ⟨⟨c0, _, t0, rfl⟩, ⟨⟨c1, _, t1, rfl⟩, ⟨⟨c2, _, t2, rfl⟩, _⟩⟩⟩ =>
      obtain ⟨x0, w0, e0⟩ := ty25 c0 t0
      obtain ⟨x1, w1, e1⟩ := ty28 c1 t1
      obtain ⟨x2, w2, e2⟩ := ty31 c2 t2
      simp only [e0, e1, e2]
      exact law23_InterlockProves_w (proves_law w0 w1 w2)
theorem interlockProves_holds : Rows.InterlockProvesSaid :=
  OpenClaim.holds_of_wide 5 Tryz.f5 rfl rfl rfl rfl rfl rfl rfl ⟨rfl, rfl, rfl, rfl, rfl⟩ rfl rfl rfl rfl rfl (by kernel_rfl) Tryz.func5 (by kernel_rfl)
    (of_decide_eq_true (by kernel_rfl)) (by unfold Func.isWrapper; first | (rw [if_pos (by decide +kernel)]; kernel_rfl) | (rw [if_neg (by decide +kernel)]; exact ⟨rfl, rfl⟩))
    (fun os started H enc _ => law_lifted [25, 22, 52, 9, 3, 48, 80, 49, 73, 23, 50, 181, 28, 26, 47, 31, 29, 4] (C := Tryz.checked) os own started laidOut (by kernel_rfl) Tryz.func5
      (ChangeSpec.witness6 (enc := enc) (C := Tryz.checked) false ⟨#[], #[Go.Value.agg #[Go.Value.slice Option.none 0 0, Go.Value.slice Option.none 0 0, Go.Value.slice Option.none 0 0, Go.Value.int Go.IntKind.i64 0, Go.Value.int Go.IntKind.i64 0], Go.Value.agg #[Go.Value.slice Option.none 0 0, Go.Value.slice Option.none 0 0], Go.Value.agg #[Go.Value.slice Option.none 0 0, Go.Value.slice Option.none 0 0, Go.Value.slice Option.none 0 0, Go.Value.slice Option.none 0 0, Go.Value.slice Option.none 0 0, Go.Value.slice Option.none 0 0, Go.Value.slice Option.none 0 0]], []⟩ 8 (by kernel_rfl) (by kernel_rfl) (by kernel_rfl) (by kernel_rfl)) (by kernel_rfl) rfl interlockProves_holds_args interlockProves_holds_true)

end Go.Proofs.YtdhicpmpefkojaaGreat
