/- InterlockSafe returns true for every input. No condition. -/
import Derived.Test.YtdhicpmpefkojaaGreatQq
import Derived.Test.YtdhicpmpefkojaaGreatRows
import Derived.ProofKit
import Derived.OpenShut
import Derived.JoinedCond
set_option maxHeartbeats 8000000
set_option linter.unusedSimpArgs false
set_option linter.unusedVariables false
set_option maxRecDepth 20000
namespace Go.Proofs.YtdhicpmpefkojaaGreat
open Go Go.TL Go.ChangeShapes Go.WideShapes Go.RowKit Go.ChangeAt

theorem interlockSafe_holds_args {H : Type} (ds : List (DataW H)) (h : ds.length = Tryz.f4.params.toList.length) : Rows.interlockSafeSpec.fn H ds = { results := [.lit (.bool true)], args := ds } := by
  have h : ds.length = 2 := h
  match ds, h with
  | [d0, d1], _ => rfl
theorem interlockSafe_holds_true (ds : List D) (h : ArgsOk Tryz.prog Tryz.f4.params.toList ds) (hb : D.bulks ds ≤ 1048576) : Ret Tryz.prog 4 [] (fun _ => false) (ds.map .d) (.d (.bool true)) [] := by
  have h : ArgsOk Tryz.prog [25, 42] ds := h
  match ds, h with
  | [_, _], ⟨⟨c0, _, t0, rfl⟩, ⟨⟨c1, _, t1, rfl⟩, _⟩⟩ =>
      obtain ⟨x0, w0, e0⟩ := ty25 c0 t0
      obtain ⟨x1, w1, e1⟩ := ty42 c1 t1
      simp only [e0, e1] at hb ⊢
      exact law23_InterlockSafe_w (safe_law w0 w1 hb)
theorem interlockSafe_holds : Rows.InterlockSafeUptoSaid :=
  OpenClaim.holds_of_cond 4 Tryz.f4 rfl rfl rfl rfl rfl rfl rfl ⟨rfl, rfl, rfl, rfl, rfl⟩ rfl rfl rfl rfl rfl (by kernel_rfl) Tryz.func4 (by kernel_rfl)
    (of_decide_eq_true (by kernel_rfl)) (by unfold Func.isWrapper; first | (rw [if_pos (by decide +kernel)]; kernel_rfl) | (rw [if_neg (by decide +kernel)]; exact ⟨rfl, rfl⟩))
    (fun os started H enc _ F' => law_liftedU 1048576 [25, 22, 52, 9, 3, 48, 80, 49, 73, 23, 50, 181, 42, 31, 29, 4] (s := Rows.interlockSafeSpec) (so := Rows.OpenSpec.upto Rows.interlockSafeSpec) (k := Rows.uptoSmall) rfl (fun ds h => small_bulk h) (fun h => h) rfl rfl (C := Tryz.checked) os own started laidOut (by kernel_rfl) Tryz.func4
      (OpenSpec.witness (enc := enc) (C := Tryz.checked) (s := Rows.OpenSpec.upto Rows.interlockSafeSpec) (k := Rows.uptoSmall) rfl false ⟨#[], #[Go.Value.agg #[Go.Value.slice Option.none 0 0, Go.Value.slice Option.none 0 0, Go.Value.slice Option.none 0 0, Go.Value.int Go.IntKind.i64 0, Go.Value.int Go.IntKind.i64 0], Go.Value.slice Option.none 0 0], []⟩ 8 (by kernel_rfl) (by kernel_rfl) (by kernel_rfl) (x := ([.agg [.nil, .nil, .nil, .lit (.int .i64 0), .lit (.int .i64 0)], .nil], [], [])) (by kernel_rfl) rfl (by kernel_rfl)) (by kernel_rfl) rfl interlockSafe_holds_args interlockSafe_holds_true)

end Go.Proofs.YtdhicpmpefkojaaGreat
