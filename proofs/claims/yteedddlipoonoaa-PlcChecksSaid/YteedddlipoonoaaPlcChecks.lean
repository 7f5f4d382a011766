/- PlcChecks: whatever the program, with at most 2100 names, 40 rungs and 200 nodes of each expression its check is that of the reference, and the law returns true, with its argument as it was. No condition. -/
import Derived.Test.YteedddlipoonoaaPlcU
import Derived.KernelRfl
namespace Go.Proofs.Yteedddlipoonoaa
open Go Go.TL Go.ChangeShapes Go.WideShapes Go.ChangeAt Go.RowKit

theorem callB3 : callB Try.prog 3 = true := by kernel_rfl

theorem plcChecks_ret (p : Prg) (hp : p.Wf) : Ret Try.prog 3 [] (fun _ => false) ([p.enc].map .d) (.d (.bool true)) [] := by
  refine ret_body callB3 Try.func3 rfl Try.ntmps3 rfl rfl (fun wX gX => ?_)
  refine twp_norm [0] (sub_d rfl .nil) (blk_nil rfl) ?_
  refine twp_rseq ?_
  refine s_boxA rfl rfl rfl ?_
  refine s_eq 1 (.mptr 0 0 0 0) rfl rfl ?_
  refine s_rd _ rfl (mv_d (.inr rfl) rfl) ?_
  refine tops_nil ?_
  refine twp_norm [1] (sub_mptr rfl .nil) (blk_boxN rfl (by repeat (first | exact NormC.nil rfl | apply nc_d rfl | apply nc_msl rfl | apply nc_mptr rfl | apply nc_fnc rfl)) (blk_nil rfl)) ?_
  refine twp_seq ?_
  refine twp_rseq ?_
  refine s_rd _ rfl (by first | exact load_boxA_d rfl lay25 rfl rfl (Nat.le_of_ble_eq_true rfl) rfl | exact load_boxA rfl lay25 rfl rfl (Nat.le_of_ble_eq_true rfl) rfl) ?_
  refine s_rd _ rfl (rd_callRN rfl rfl (by repeat (first | exact snaps_nil | refine snaps_cons (.d _) ?_ | refine snaps_cons (snap_full rfl (by simp)) ?_ | refine snaps_cons (snap_full rfl rfl) ?_ | refine snaps_cons (snap_boxD rfl rfl) ?_ | refine snaps_cons (snap_agg (by repeat (first | exact SnapsO.nil | refine SnapsO.cons (Snap.d _) rfl ?_ | refine SnapsO.cons (snap_full rfl rfl) rfl ?_))) ?_)) (fewR_n p 2100 hp)) ?_
  refine s_rd _ rfl (not_b rfl rfl rfl) ?_
  refine tops_nil ?_
  refine twp_norm [1, 5] (sub_mptr rfl (sub_d rfl .nil)) (blk_box rfl (blk_nil rfl)) ?_
  refine twp_cond _ rfl (fun hf => ?_) (fun hf => ?_)
  · refine twp_rseq ?_
    refine s_rd _ rfl (rd_callRN rfl rfl snaps_nil alive_n) ?_
    refine s_rd _ rfl (mv_d (.inr rfl) rfl) ?_
    refine tops_nil ?_
    refine twp_norm [2] (sub_d rfl .nil) (blk_box rfl (blk_nil rfl)) ?_
    refine twp_ret ?_
    refine way_thenRet ?_
    exact Ends.plain _ rfl
  · have hf : p.few 2100 = true := by simpa using hf
    have hs : ∀ r ∈ p.rungs, r.expr.size ≤ 1000000 := fun r hr => by unfold Prg.few at hf; simp only [Bool.and_eq_true, List.all_eq_true, decide_eq_true_eq] at hf; have := hf.2 r hr; omega
    refine twp_skip ?_
    refine way_then ?_
    refine twp_norm [1] (sub_mptr rfl .nil) (blk_box rfl (blk_nil rfl)) ?_
    refine twp_dseq follows  ?_
    first | refine d_rd [] _ rfl rfl (by first | exact load_boxA_d rfl lay25 rfl rfl (Nat.le_of_ble_eq_true rfl) rfl | exact load_boxA rfl lay25 rfl rfl (Nat.le_of_ble_eq_true rfl) rfl) ?_ | refine d_rd [0] _ rfl rfl (by first | exact load_boxA_d rfl lay25 rfl rfl (Nat.le_of_ble_eq_true rfl) rfl | exact load_boxA rfl lay25 rfl rfl (Nat.le_of_ble_eq_true rfl) rfl) ?_ | refine d_rd [1] _ rfl rfl (by first | exact load_boxA_d rfl lay25 rfl rfl (Nat.le_of_ble_eq_true rfl) rfl | exact load_boxA rfl lay25 rfl rfl (Nat.le_of_ble_eq_true rfl) rfl) ?_ | refine d_rd [2] _ rfl rfl (by first | exact load_boxA_d rfl lay25 rfl rfl (Nat.le_of_ble_eq_true rfl) rfl | exact load_boxA rfl lay25 rfl rfl (Nat.le_of_ble_eq_true rfl) rfl) ?_ | refine d_rd [3] _ rfl rfl (by first | exact load_boxA_d rfl lay25 rfl rfl (Nat.le_of_ble_eq_true rfl) rfl | exact load_boxA rfl lay25 rfl rfl (Nat.le_of_ble_eq_true rfl) rfl) ?_ | refine d_rd [0, 1] _ rfl rfl (by first | exact load_boxA_d rfl lay25 rfl rfl (Nat.le_of_ble_eq_true rfl) rfl | exact load_boxA rfl lay25 rfl rfl (Nat.le_of_ble_eq_true rfl) rfl) ?_
    first | refine d_rd [] _ rfl rfl (rd_callRD rfl rfl rfl ((checkP_n p hp).retD)) ?_ | refine d_rd [0] _ rfl rfl (rd_callRD rfl rfl rfl ((checkP_n p hp).retD)) ?_ | refine d_rd [1] _ rfl rfl (rd_callRD rfl rfl rfl ((checkP_n p hp).retD)) ?_ | refine d_rd [2] _ rfl rfl (rd_callRD rfl rfl rfl ((checkP_n p hp).retD)) ?_ | refine d_rd [3] _ rfl rfl (rd_callRD rfl rfl rfl ((checkP_n p hp).retD)) ?_ | refine d_rd [0, 1] _ rfl rfl (rd_callRD rfl rfl rfl ((checkP_n p hp).retD)) ?_
    first | refine d_rd [] _ rfl rfl (by first | exact load_boxA_d rfl lay25 rfl rfl (Nat.le_of_ble_eq_true rfl) rfl | exact load_boxA rfl lay25 rfl rfl (Nat.le_of_ble_eq_true rfl) rfl) ?_ | refine d_rd [0] _ rfl rfl (by first | exact load_boxA_d rfl lay25 rfl rfl (Nat.le_of_ble_eq_true rfl) rfl | exact load_boxA rfl lay25 rfl rfl (Nat.le_of_ble_eq_true rfl) rfl) ?_ | refine d_rd [1] _ rfl rfl (by first | exact load_boxA_d rfl lay25 rfl rfl (Nat.le_of_ble_eq_true rfl) rfl | exact load_boxA rfl lay25 rfl rfl (Nat.le_of_ble_eq_true rfl) rfl) ?_ | refine d_rd [2] _ rfl rfl (by first | exact load_boxA_d rfl lay25 rfl rfl (Nat.le_of_ble_eq_true rfl) rfl | exact load_boxA rfl lay25 rfl rfl (Nat.le_of_ble_eq_true rfl) rfl) ?_ | refine d_rd [3] _ rfl rfl (by first | exact load_boxA_d rfl lay25 rfl rfl (Nat.le_of_ble_eq_true rfl) rfl | exact load_boxA rfl lay25 rfl rfl (Nat.le_of_ble_eq_true rfl) rfl) ?_ | refine d_rd [0, 1] _ rfl rfl (by first | exact load_boxA_d rfl lay25 rfl rfl (Nat.le_of_ble_eq_true rfl) rfl | exact load_boxA rfl lay25 rfl rfl (Nat.le_of_ble_eq_true rfl) rfl) ?_
    first | refine d_rd [] _ rfl rfl (rd_callRD rfl rfl rfl ((checkR_n p hp hs).retD)) ?_ | refine d_rd [0] _ rfl rfl (rd_callRD rfl rfl rfl ((checkR_n p hp hs).retD)) ?_ | refine d_rd [1] _ rfl rfl (rd_callRD rfl rfl rfl ((checkR_n p hp hs).retD)) ?_ | refine d_rd [2] _ rfl rfl (rd_callRD rfl rfl rfl ((checkR_n p hp hs).retD)) ?_ | refine d_rd [3] _ rfl rfl (rd_callRD rfl rfl rfl ((checkR_n p hp hs).retD)) ?_ | refine d_rd [0, 1] _ rfl rfl (rd_callRD rfl rfl rfl ((checkR_n p hp hs).retD)) ?_
    refine d_rd [] _ rfl rfl (cmp_int rfl rfl rfl rfl) ?_
    refine d_rd [] _ rfl rfl (mv_d (.inl rfl) rfl) ?_
    first | refine d_rd [] _ rfl (on_yes rfl rfl rfl (by simp)) (rd_callRN rfl rfl snaps_nil alive_n) ?_ | refine d_rd [0] _ rfl (on_yes rfl rfl rfl (by simp)) (rd_callRN rfl rfl snaps_nil alive_n) ?_ | refine d_rd [1] _ rfl (on_yes rfl rfl rfl (by simp)) (rd_callRN rfl rfl snaps_nil alive_n) ?_ | refine d_rd [2] _ rfl (on_yes rfl rfl rfl (by simp)) (rd_callRN rfl rfl snaps_nil alive_n) ?_ | refine d_rd [3] _ rfl (on_yes rfl rfl rfl (by simp)) (rd_callRN rfl rfl snaps_nil alive_n) ?_ | refine d_rd [0, 1] _ rfl (on_yes rfl rfl rfl (by simp)) (rd_callRN rfl rfl snaps_nil alive_n) ?_
    refine d_rd [] _ rfl rfl (pickh_T rfl rfl (by simp) rfl) ?_
    refine d_tail ?_ (by kernel_rfl)
    refine s_rd _ rfl (mv_d (.inr rfl) rfl) ?_
    refine tops_nil ?_
    refine twp_norm [2] (sub_d rfl .nil) (blk_box rfl (blk_nil rfl)) ?_
    refine twp_ret ?_
    exact Ends.plain _ rfl

theorem plcChecks_holds_args {H : Type} (ds : List (DataW H)) (h : ds.length = Try.f3.params.toList.length) : Rows.plcChecksSpec.fn H ds = { results := [.lit (.bool true)], args := ds } := by
  have h : ds.length = 1 := h
  match ds, h with
  | [d0], _ => rfl
theorem plcChecks_holds_true (ds : List D) (h : ArgsOk Try.prog Try.f3.params.toList ds) : Ret Try.prog 3 [] (fun _ => false) (ds.map .d) (.d (.bool true)) [] := by
  have h : ArgsOk Try.prog [25] ds := h
  match ds, h with
  | [_], ⟨⟨c0, _, t0, rfl⟩, _⟩ =>
      obtain ⟨p, hp, e0⟩ := ty25 c0 t0
      simp only [e0]
      exact (plcChecks_ret p hp)
theorem plcChecks_holds : Rows.PlcChecksSaid :=
  OpenClaim.holds_of_wide 3 Try.f3 rfl rfl rfl rfl rfl rfl rfl ⟨rfl, rfl, rfl, rfl, rfl⟩ rfl rfl rfl rfl rfl (by kernel_rfl) Try.func3 (by kernel_rfl)
    (of_decide_eq_true (by kernel_rfl)) (by unfold Func.isWrapper; first | (rw [if_pos (by decide +kernel)]; kernel_rfl) | (rw [if_neg (by decide +kernel)]; exact ⟨rfl, rfl⟩))
    (fun os started H enc _ => law_lifted [25, 22, 9, 3, 23, 50, 47, 45] (C := Try.checked) os own started laidOut (by kernel_rfl) Try.func3
      (ChangeSpec.witness6 (enc := enc) (C := Try.checked) false ⟨#[], #[.agg #[.slice none 0 0, .int .i64 0, .slice none 0 0]], []⟩ 8 (by kernel_rfl) (by kernel_rfl) (by kernel_rfl) (by kernel_rfl)) (by kernel_rfl) rfl plcChecks_holds_args plcChecks_holds_true)

end Go.Proofs.Yteedddlipoonoaa
