/- PlcScans: whatever the program, the machine and the inputs, within the sizes that the law names a scan is that of the reference, and the law returns true, with its arguments as they were. No condition. -/
import Derived.Test.YteedddlipoonoaaPlcU
import Derived.KernelRfl
set_option linter.unusedSimpArgs false
set_option linter.unusedVariables false
namespace Go.Proofs.Yteedddlipoonoaa
open Go Go.TL Go.ChangeShapes Go.WideShapes Go.ChangeAt Go.RowKit

theorem callB5 : callB Try.prog 5 = true := by kernel_rfl

theorem plcScans_ret (p : Prg) (m : Mch) (ins : List Bool) (hp : p.Wf) (hm : m.Wf) : Ret Try.prog 5 [] (fun _ => false) ([p.enc, m.enc, bools ins].map .d) (.d (.bool true)) [] := by
  refine ret_body callB5 Try.func5 rfl Try.ntmps5 rfl rfl (fun wX gX => ?_)
  refine twp_norm [0, 1, 2] (sub_d rfl (sub_d rfl (sub_d rfl .nil))) (blk_nil rfl) ?_
  refine twp_rseq ?_
  refine s_boxA rfl rfl rfl ?_
  refine s_eq 3 (.mptr 0 0 0 0) rfl rfl ?_
  refine s_boxA rfl rfl rfl ?_
  refine s_eq 4 (.mptr 1 0 0 0) rfl rfl ?_
  refine s_rd _ rfl (mv_d (.inr rfl) rfl) ?_
  refine tops_nil ?_
  refine twp_norm [2, 3, 4] (sub_d rfl (sub_mptr rfl (sub_mptr rfl .nil))) (blk_boxN rfl (by repeat (first | exact NormC.nil rfl | apply nc_d rfl | apply nc_msl rfl | apply nc_mptr rfl | apply nc_fnc rfl)) (blk_boxN rfl (by repeat (first | exact NormC.nil rfl | apply nc_d rfl | apply nc_msl rfl | apply nc_mptr rfl | apply nc_fnc rfl)) (blk_nil rfl))) ?_
  refine twp_seq ?_
  refine twp_rseq ?_
  refine s_rd _ rfl (by first | exact load_boxA_d rfl lay25 rfl rfl (Nat.le_of_ble_eq_true rfl) rfl | exact load_boxA rfl lay25 rfl rfl (Nat.le_of_ble_eq_true rfl) rfl) ?_
  refine s_rd _ rfl (by first | exact load_boxA_d rfl lay34 rfl rfl (Nat.le_of_ble_eq_true rfl) rfl | exact load_boxA rfl lay34 rfl rfl (Nat.le_of_ble_eq_true rfl) rfl) ?_
  refine s_rd _ rfl (mv_d (.inl rfl) rfl) ?_
  refine s_rd _ rfl (rd_callRN rfl rfl (by repeat (first | exact snaps_nil | refine snaps_cons (.d _) ?_ | refine snaps_cons (snap_full rfl (by simp)) ?_ | refine snaps_cons (snap_full rfl rfl) ?_ | refine snaps_cons (snap_boxD rfl rfl) ?_ | refine snaps_cons (snap_agg (by repeat (first | exact SnapsO.nil | refine SnapsO.cons (Snap.d _) rfl ?_ | refine SnapsO.cons (snap_full rfl rfl) rfl ?_))) ?_)) (few_n p m ins hp)) ?_
  refine s_rd _ rfl (not_b rfl rfl rfl) ?_
  refine tops_nil ?_
  refine twp_norm [2, 3, 4, 11] (sub_d rfl (sub_mptr rfl (sub_mptr rfl (sub_d rfl .nil)))) (blk_box rfl (blk_box rfl (blk_nil rfl))) ?_
  refine twp_cond _ rfl (fun hf => ?_) (fun hf => ?_)
  · refine twp_rseq ?_
    refine s_rd _ rfl (rd_callRN rfl rfl snaps_nil alive_n) ?_
    refine s_rd _ rfl (mv_d (.inr rfl) rfl) ?_
    refine tops_nil ?_
    refine twp_norm [6] (sub_d rfl .nil) (blk_box rfl (blk_box rfl (blk_nil rfl))) ?_
    refine twp_ret ?_
    refine way_thenRet ?_
    exact Ends.plain _ rfl
  · have hf : few p m ins = true := by simpa using hf
    obtain ⟨hn1, hr1, hs, _⟩ := few_ok hf
    refine twp_skip ?_
    refine way_then ?_
    refine twp_norm [2, 3, 4] (sub_d rfl (sub_mptr rfl (sub_mptr rfl .nil))) (blk_box rfl (blk_box rfl (blk_nil rfl))) ?_
    refine twp_dseq follows  ?_
    first | refine d_rd [] _ rfl rfl (by first | exact load_boxA_d rfl lay25 rfl rfl (Nat.le_of_ble_eq_true rfl) rfl | exact load_boxA rfl lay25 rfl rfl (Nat.le_of_ble_eq_true rfl) rfl) ?_ | refine d_rd [0] _ rfl rfl (by first | exact load_boxA_d rfl lay25 rfl rfl (Nat.le_of_ble_eq_true rfl) rfl | exact load_boxA rfl lay25 rfl rfl (Nat.le_of_ble_eq_true rfl) rfl) ?_ | refine d_rd [1] _ rfl rfl (by first | exact load_boxA_d rfl lay25 rfl rfl (Nat.le_of_ble_eq_true rfl) rfl | exact load_boxA rfl lay25 rfl rfl (Nat.le_of_ble_eq_true rfl) rfl) ?_ | refine d_rd [2] _ rfl rfl (by first | exact load_boxA_d rfl lay25 rfl rfl (Nat.le_of_ble_eq_true rfl) rfl | exact load_boxA rfl lay25 rfl rfl (Nat.le_of_ble_eq_true rfl) rfl) ?_ | refine d_rd [3] _ rfl rfl (by first | exact load_boxA_d rfl lay25 rfl rfl (Nat.le_of_ble_eq_true rfl) rfl | exact load_boxA rfl lay25 rfl rfl (Nat.le_of_ble_eq_true rfl) rfl) ?_ | refine d_rd [0, 1] _ rfl rfl (by first | exact load_boxA_d rfl lay25 rfl rfl (Nat.le_of_ble_eq_true rfl) rfl | exact load_boxA rfl lay25 rfl rfl (Nat.le_of_ble_eq_true rfl) rfl) ?_
    first | refine d_rd [] _ rfl rfl (by first | exact load_boxA_d rfl lay34 rfl rfl (Nat.le_of_ble_eq_true rfl) rfl | exact load_boxA rfl lay34 rfl rfl (Nat.le_of_ble_eq_true rfl) rfl) ?_ | refine d_rd [0] _ rfl rfl (by first | exact load_boxA_d rfl lay34 rfl rfl (Nat.le_of_ble_eq_true rfl) rfl | exact load_boxA rfl lay34 rfl rfl (Nat.le_of_ble_eq_true rfl) rfl) ?_ | refine d_rd [1] _ rfl rfl (by first | exact load_boxA_d rfl lay34 rfl rfl (Nat.le_of_ble_eq_true rfl) rfl | exact load_boxA rfl lay34 rfl rfl (Nat.le_of_ble_eq_true rfl) rfl) ?_ | refine d_rd [2] _ rfl rfl (by first | exact load_boxA_d rfl lay34 rfl rfl (Nat.le_of_ble_eq_true rfl) rfl | exact load_boxA rfl lay34 rfl rfl (Nat.le_of_ble_eq_true rfl) rfl) ?_ | refine d_rd [3] _ rfl rfl (by first | exact load_boxA_d rfl lay34 rfl rfl (Nat.le_of_ble_eq_true rfl) rfl | exact load_boxA rfl lay34 rfl rfl (Nat.le_of_ble_eq_true rfl) rfl) ?_ | refine d_rd [0, 1] _ rfl rfl (by first | exact load_boxA_d rfl lay34 rfl rfl (Nat.le_of_ble_eq_true rfl) rfl | exact load_boxA rfl lay34 rfl rfl (Nat.le_of_ble_eq_true rfl) rfl) ?_
    refine d_rd [] _ rfl rfl (mv_d (.inl rfl) rfl) ?_
    first | refine d_rd [] _ rfl rfl (rd_callRD rfl rfl rfl (scanP_d p m ins hp hm (by omega) (by omega))) ?_ | refine d_rd [0] _ rfl rfl (rd_callRD rfl rfl rfl (scanP_d p m ins hp hm (by omega) (by omega))) ?_ | refine d_rd [1] _ rfl rfl (rd_callRD rfl rfl rfl (scanP_d p m ins hp hm (by omega) (by omega))) ?_ | refine d_rd [2] _ rfl rfl (rd_callRD rfl rfl rfl (scanP_d p m ins hp hm (by omega) (by omega))) ?_ | refine d_rd [3] _ rfl rfl (rd_callRD rfl rfl rfl (scanP_d p m ins hp hm (by omega) (by omega))) ?_ | refine d_rd [0, 1] _ rfl rfl (rd_callRD rfl rfl rfl (scanP_d p m ins hp hm (by omega) (by omega))) ?_
    first | refine d_rd [] _ rfl rfl (by first | exact load_boxA_d rfl lay25 rfl rfl (Nat.le_of_ble_eq_true rfl) rfl | exact load_boxA rfl lay25 rfl rfl (Nat.le_of_ble_eq_true rfl) rfl) ?_ | refine d_rd [0] _ rfl rfl (by first | exact load_boxA_d rfl lay25 rfl rfl (Nat.le_of_ble_eq_true rfl) rfl | exact load_boxA rfl lay25 rfl rfl (Nat.le_of_ble_eq_true rfl) rfl) ?_ | refine d_rd [1] _ rfl rfl (by first | exact load_boxA_d rfl lay25 rfl rfl (Nat.le_of_ble_eq_true rfl) rfl | exact load_boxA rfl lay25 rfl rfl (Nat.le_of_ble_eq_true rfl) rfl) ?_ | refine d_rd [2] _ rfl rfl (by first | exact load_boxA_d rfl lay25 rfl rfl (Nat.le_of_ble_eq_true rfl) rfl | exact load_boxA rfl lay25 rfl rfl (Nat.le_of_ble_eq_true rfl) rfl) ?_ | refine d_rd [3] _ rfl rfl (by first | exact load_boxA_d rfl lay25 rfl rfl (Nat.le_of_ble_eq_true rfl) rfl | exact load_boxA rfl lay25 rfl rfl (Nat.le_of_ble_eq_true rfl) rfl) ?_ | refine d_rd [0, 1] _ rfl rfl (by first | exact load_boxA_d rfl lay25 rfl rfl (Nat.le_of_ble_eq_true rfl) rfl | exact load_boxA rfl lay25 rfl rfl (Nat.le_of_ble_eq_true rfl) rfl) ?_
    first | refine d_rd [] _ rfl rfl (by first | exact load_boxA_d rfl lay34 rfl rfl (Nat.le_of_ble_eq_true rfl) rfl | exact load_boxA rfl lay34 rfl rfl (Nat.le_of_ble_eq_true rfl) rfl) ?_ | refine d_rd [0] _ rfl rfl (by first | exact load_boxA_d rfl lay34 rfl rfl (Nat.le_of_ble_eq_true rfl) rfl | exact load_boxA rfl lay34 rfl rfl (Nat.le_of_ble_eq_true rfl) rfl) ?_ | refine d_rd [1] _ rfl rfl (by first | exact load_boxA_d rfl lay34 rfl rfl (Nat.le_of_ble_eq_true rfl) rfl | exact load_boxA rfl lay34 rfl rfl (Nat.le_of_ble_eq_true rfl) rfl) ?_ | refine d_rd [2] _ rfl rfl (by first | exact load_boxA_d rfl lay34 rfl rfl (Nat.le_of_ble_eq_true rfl) rfl | exact load_boxA rfl lay34 rfl rfl (Nat.le_of_ble_eq_true rfl) rfl) ?_ | refine d_rd [3] _ rfl rfl (by first | exact load_boxA_d rfl lay34 rfl rfl (Nat.le_of_ble_eq_true rfl) rfl | exact load_boxA rfl lay34 rfl rfl (Nat.le_of_ble_eq_true rfl) rfl) ?_ | refine d_rd [0, 1] _ rfl rfl (by first | exact load_boxA_d rfl lay34 rfl rfl (Nat.le_of_ble_eq_true rfl) rfl | exact load_boxA rfl lay34 rfl rfl (Nat.le_of_ble_eq_true rfl) rfl) ?_
    refine d_rd [] _ rfl rfl (mv_d (.inl rfl) rfl) ?_
    first | refine d_rd [] _ rfl rfl (rd_callRD rfl rfl rfl (scanR_d p m ins hp hm (by omega) (by omega) hs)) ?_ | refine d_rd [0] _ rfl rfl (rd_callRD rfl rfl rfl (scanR_d p m ins hp hm (by omega) (by omega) hs)) ?_ | refine d_rd [1] _ rfl rfl (rd_callRD rfl rfl rfl (scanR_d p m ins hp hm (by omega) (by omega) hs)) ?_ | refine d_rd [2] _ rfl rfl (rd_callRD rfl rfl rfl (scanR_d p m ins hp hm (by omega) (by omega) hs)) ?_ | refine d_rd [3] _ rfl rfl (rd_callRD rfl rfl rfl (scanR_d p m ins hp hm (by omega) (by omega) hs)) ?_ | refine d_rd [0, 1] _ rfl rfl (rd_callRD rfl rfl rfl (scanR_d p m ins hp hm (by omega) (by omega) hs)) ?_
    first | refine d_rd [] _ rfl rfl (rd_callRD rfl rfl rfl ((sameR_n _ _ (p.scan_wf hp ins) (p.scan_wf hp ins)).retD)) ?_ | refine d_rd [0] _ rfl rfl (rd_callRD rfl rfl rfl ((sameR_n _ _ (p.scan_wf hp ins) (p.scan_wf hp ins)).retD)) ?_ | refine d_rd [1] _ rfl rfl (rd_callRD rfl rfl rfl ((sameR_n _ _ (p.scan_wf hp ins) (p.scan_wf hp ins)).retD)) ?_ | refine d_rd [2] _ rfl rfl (rd_callRD rfl rfl rfl ((sameR_n _ _ (p.scan_wf hp ins) (p.scan_wf hp ins)).retD)) ?_ | refine d_rd [3] _ rfl rfl (rd_callRD rfl rfl rfl ((sameR_n _ _ (p.scan_wf hp ins) (p.scan_wf hp ins)).retD)) ?_ | refine d_rd [0, 1] _ rfl rfl (rd_callRD rfl rfl rfl ((sameR_n _ _ (p.scan_wf hp ins) (p.scan_wf hp ins)).retD)) ?_
    refine d_rd [] _ rfl rfl (mv_d (.inl rfl) rfl) ?_
    first | refine d_rd [] _ rfl (on_yes rfl rfl rfl (Mch.same_self _)) (rd_callRN rfl rfl snaps_nil alive_n) ?_ | refine d_rd [0] _ rfl (on_yes rfl rfl rfl (Mch.same_self _)) (rd_callRN rfl rfl snaps_nil alive_n) ?_ | refine d_rd [1] _ rfl (on_yes rfl rfl rfl (Mch.same_self _)) (rd_callRN rfl rfl snaps_nil alive_n) ?_ | refine d_rd [2] _ rfl (on_yes rfl rfl rfl (Mch.same_self _)) (rd_callRN rfl rfl snaps_nil alive_n) ?_ | refine d_rd [3] _ rfl (on_yes rfl rfl rfl (Mch.same_self _)) (rd_callRN rfl rfl snaps_nil alive_n) ?_ | refine d_rd [0, 1] _ rfl (on_yes rfl rfl rfl (Mch.same_self _)) (rd_callRN rfl rfl snaps_nil alive_n) ?_
    refine d_rd [] _ rfl rfl (pickh_T rfl rfl (Mch.same_self _) rfl) ?_
    refine d_tail ?_ (by kernel_rfl)
    refine s_rd _ rfl (mv_d (.inr rfl) rfl) ?_
    refine tops_nil ?_
    refine twp_norm [6] (sub_d rfl .nil) (blk_box rfl (blk_box rfl (blk_nil rfl))) ?_
    refine twp_ret ?_
    exact Ends.plain _ rfl

theorem plcScans_holds_args {H : Type} (ds : List (DataW H)) (h : ds.length = Try.f5.params.toList.length) : Rows.plcScansSpec.fn H ds = { results := [.lit (.bool true)], args := ds } := by
  have h : ds.length = 3 := h
  match ds, h with
  | [d0, d1, d2], _ => rfl
theorem plcScans_holds_true (ds : List D) (h : ArgsOk Try.prog Try.f5.params.toList ds) : Ret Try.prog 5 [] (fun _ => false) (ds.map .d) (.d (.bool true)) [] := by
  have h : ArgsOk Try.prog [25, 34, 31] ds := h
  match ds, h with
  | [_, _, _], ⟨⟨c0, _, t0, rfl⟩, ⟨⟨c1, _, t1, rfl⟩, ⟨⟨c2, _, t2, rfl⟩, _⟩⟩⟩ =>
      obtain ⟨p, hp, e0⟩ := ty25 c0 t0
      obtain ⟨m, hm, e1⟩ := ty34 c1 t1
      obtain ⟨ins, hins, e2⟩ := ty31 c2 t2
      simp only [e0, e1, e2]
      exact (plcScans_ret p m ins hp hm)
theorem plcScans_holds : Rows.PlcScansSaid :=
  OpenClaim.holds_of_wide 5 Try.f5 rfl rfl rfl rfl rfl rfl rfl ⟨rfl, rfl, rfl, rfl, rfl⟩ rfl rfl rfl rfl rfl (by kernel_rfl) Try.func5 (by kernel_rfl)
    (of_decide_eq_true (by kernel_rfl)) (by unfold Func.isWrapper; first | (rw [if_pos (by decide +kernel)]; kernel_rfl) | (rw [if_neg (by decide +kernel)]; exact ⟨rfl, rfl⟩))
    (fun os started H enc _ => law_lifted [25, 22, 9, 3, 23, 50, 47, 45, 34, 31, 4, 32] (C := Try.checked) os own started laidOut (by kernel_rfl) Try.func5
      (ChangeSpec.witness6 (enc := enc) (C := Try.checked) false ⟨#[], #[.agg #[.slice none 0 0, .int .i64 0, .slice none 0 0], .agg #[.slice none 0 0, .slice none 0 0, .bool false], .slice none 0 0], []⟩ 8 (by kernel_rfl) (by kernel_rfl) (by kernel_rfl) (by kernel_rfl)) (by kernel_rfl) rfl plcScans_holds_args plcScans_holds_true)

end Go.Proofs.Yteedddlipoonoaa
