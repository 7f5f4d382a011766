/- InterlockReleases returns true for every input. No condition. -/
import Derived.Test.YtdhicpmpefkojaaGreatQp
import Derived.Test.YtdhicpmpefkojaaGreatRows
import Derived.ProofKit
import Derived.OpenShut
import Derived.JoinedCond
set_option maxHeartbeats 8000000
set_option linter.unusedSimpArgs false
set_option linter.unusedVariables false
set_option maxRecDepth 20000
namespace Go.Proofs.YtdhicpmpefkojaaGreat
open Go Go.TL Go.ChangeShapes Go.WideShapes Go.RowKit Go.ChangeAt

theorem interlockReleases_holds_args {H : Type} (ds : List (DataW H)) (h : ds.length = Tryz.f6.params.toList.length) : Rows.interlockReleasesSpec.fn H ds = { results := [.lit (.bool true)], args := ds } := by
  have h : ds.length = 2 := h
  match ds, h with
  | [d0, d1], _ => rfl
theorem interlockReleases_holds_true (ds : List D) (h : ArgsOk Tryz.prog Tryz.f6.params.toList ds) : Ret Tryz.prog 6 [] (fun _ => false) (ds.map .d) (.d (.bool true)) [] := by
  have h : ArgsOk Tryz.prog [25, 28] ds := h
  match ds, h with
  | [_, _], ⟨⟨c0, _, t0, rfl⟩, ⟨⟨c1, _, t1, rfl⟩, _⟩⟩ =>
      obtain ⟨x0, w0, e0⟩ := ty25 c0 t0
      obtain ⟨x1, w1, e1⟩ := ty28 c1 t1
      simp only [e0, e1]
      exact law23_InterlockReleases_w (releases23_law w0 w1)
theorem interlockReleases_holds : Rows.InterlockReleasesSaid :=
  OpenClaim.holds_of_wide 6 Tryz.f6 rfl rfl rfl rfl rfl rfl rfl ⟨rfl, rfl, rfl, rfl, rfl⟩ rfl rfl rfl rfl rfl (by kernel_rfl) Tryz.func6 (by kernel_rfl)
    (of_decide_eq_true (by kernel_rfl)) (by unfold Func.isWrapper; first | (rw [if_pos (by decide +kernel)]; kernel_rfl) | (rw [if_neg (by decide +kernel)]; exact ⟨rfl, rfl⟩))
    (fun os started H enc _ => law_lifted [25, 22, 52, 9, 3, 48, 80, 49, 73, 23, 50, 181, 28, 26, 47] (C := Tryz.checked) os own started laidOut (by kernel_rfl) Tryz.func6
      (ChangeSpec.witness6 (enc := enc) (C := Tryz.checked) false ⟨#[], #[Go.Value.agg #[Go.Value.slice Option.none 0 0, Go.Value.slice Option.none 0 0, Go.Value.slice Option.none 0 0, Go.Value.int Go.IntKind.i64 0, Go.Value.int Go.IntKind.i64 0], Go.Value.agg #[Go.Value.slice Option.none 0 0, Go.Value.slice Option.none 0 0]], []⟩ 8 (by kernel_rfl) (by kernel_rfl) (by kernel_rfl) (by kernel_rfl)) (by kernel_rfl) rfl interlockReleases_holds_args interlockReleases_holds_true)

end Go.Proofs.YtdhicpmpefkojaaGreat
