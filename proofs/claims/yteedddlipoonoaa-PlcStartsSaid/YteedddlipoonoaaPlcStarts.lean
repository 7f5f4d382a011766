/- PlcStarts: whatever the program and the two machines, within the sizes that the law names Start, Halt, Fits and Same are those of the reference, and the law returns true, with its arguments as they were. No condition. -/
import Derived.Test.YteedddlipoonoaaPlcU
import Derived.KernelRfl
set_option linter.unusedSimpArgs false
set_option linter.unusedVariables false
namespace Go.Proofs.Yteedddlipoonoaa
open Go Go.TL Go.ChangeShapes Go.WideShapes Go.ChangeAt Go.RowKit

theorem callB4 : callB Try.prog 4 = true := by kernel_rfl

theorem plcStarts_ret (p : Prg) (m n : Mch) (hp : p.Wf) (hm : m.Wf) (hn : n.Wf) : Ret Try.prog 4 [] (fun _ => false) ([p.enc, m.enc, n.enc].map .d) (.d (.bool true)) [] := by
  refine ret_body callB4 Try.func4 rfl Try.ntmps4 rfl rfl (fun wX gX => ?_)
  refine twp_norm [0, 1, 2] (sub_d rfl (sub_d rfl (sub_d rfl .nil))) (blk_nil rfl) ?_
  refine twp_rseq ?_
  refine s_boxA rfl rfl rfl ?_
  refine s_eq 3 (.mptr 0 0 0 0) rfl rfl ?_
  refine s_boxA rfl rfl rfl ?_
  refine s_eq 4 (.mptr 1 0 0 0) rfl rfl ?_
  refine s_boxA rfl rfl rfl ?_
  refine s_eq 5 (.mptr 2 0 0 0) rfl rfl ?_
  refine s_rd _ rfl (mv_d (.inr rfl) rfl) ?_
  refine tops_nil ?_
  refine twp_norm [3, 4, 5] (sub_mptr rfl (sub_mptr rfl (sub_mptr rfl .nil))) (blk_boxN rfl (by repeat (first | exact NormC.nil rfl | apply nc_d rfl | apply nc_msl rfl | apply nc_mptr rfl | apply nc_fnc rfl)) (blk_boxN rfl (by repeat (first | exact NormC.nil rfl | apply nc_d rfl | apply nc_msl rfl | apply nc_mptr rfl | apply nc_fnc rfl)) (blk_boxN rfl (by repeat (first | exact NormC.nil rfl | apply nc_d rfl | apply nc_msl rfl | apply nc_mptr rfl | apply nc_fnc rfl)) (blk_nil rfl)))) ?_
  refine twp_seq ?_
  refine twp_rseq ?_
  refine s_rd _ rfl (by first | exact load_boxA_d rfl lay25 rfl rfl (Nat.le_of_ble_eq_true rfl) rfl | exact load_boxA rfl lay25 rfl rfl (Nat.le_of_ble_eq_true rfl) rfl) ?_
  refine s_rd _ rfl (by first | exact load_boxA_d rfl lay34 rfl rfl (Nat.le_of_ble_eq_true rfl) rfl | exact load_boxA rfl lay34 rfl rfl (Nat.le_of_ble_eq_true rfl) rfl) ?_
  refine s_rd _ rfl (rd_callRD rfl rfl rfl ((few_n p m [] hp).retD.args (.cons (.refl _) (.cons (.refl _) (.cons (.nil 1) .nil))))) ?_
  refine s_rd _ rfl (not_b rfl rfl rfl) ?_
  refine s_rd _ rfl (mv_d (.inl rfl) rfl) ?_
  refine s_split 11 rfl (fun hf => ?_) (fun hf => ?_)
  · refine s_no rfl rfl rfl rfl ?_
    refine s_no rfl rfl rfl rfl ?_
    refine s_no rfl rfl rfl rfl ?_
    refine s_no rfl rfl rfl rfl ?_
    refine s_rd _ rfl (by first | exact pick_Td rfl rfl rfl | exact pick_T rfl rfl rfl) ?_
    refine tops_nil ?_
    refine twp_norm [3, 4, 5, 16] (sub_mptr rfl (sub_mptr rfl (sub_mptr rfl (sub_d rfl .nil)))) (blk_box rfl (blk_box rfl (blk_box rfl (blk_nil rfl)))) ?_
    refine twp_cond true rfl (fun _ => ?_) (fun h => by cases h)
    refine twp_rseq ?_
    refine s_rd _ rfl (rd_callRN rfl rfl snaps_nil alive_n) ?_
    refine s_rd _ rfl (mv_d (.inr rfl) rfl) ?_
    refine tops_nil ?_
    refine twp_norm [6] (sub_d rfl .nil) (blk_box rfl (blk_box rfl (blk_box rfl (blk_nil rfl)))) ?_
    refine twp_ret ?_
    refine way_thenRet ?_
    exact Ends.plain _ rfl
  · have hf : few p m [] = true := by simpa using hf
    obtain ⟨hn1, hr1, hs, _⟩ := few_ok hf
    refine s_yes rfl rfl rfl ?_
    refine s_rd _ rfl (by first | exact load_boxA_d rfl lay25 rfl rfl (Nat.le_of_ble_eq_true rfl) rfl | exact load_boxA rfl lay25 rfl rfl (Nat.le_of_ble_eq_true rfl) rfl) ?_
    refine s_yes rfl rfl rfl ?_
    refine s_rd _ rfl (by first | exact load_boxA_d rfl lay34 rfl rfl (Nat.le_of_ble_eq_true rfl) rfl | exact load_boxA rfl lay34 rfl rfl (Nat.le_of_ble_eq_true rfl) rfl) ?_
    refine s_yes rfl rfl rfl ?_
    refine s_rd _ rfl (rd_callRD rfl rfl rfl ((few_n p n [] hp).retD.args (.cons (.refl _) (.cons (.refl _) (.cons (.nil 1) .nil))))) ?_
    refine s_yes rfl rfl rfl ?_
    refine s_rd _ rfl (not_b rfl rfl rfl) ?_
    refine s_rd _ rfl (by first | exact pick_Fd rfl rfl rfl | exact pick_F rfl rfl rfl) ?_
    refine tops_nil ?_
    refine twp_norm [3, 4, 5, 16] (sub_mptr rfl (sub_mptr rfl (sub_mptr rfl (sub_d rfl .nil)))) (blk_box rfl (blk_box rfl (blk_box rfl (blk_nil rfl)))) ?_
    refine twp_cond _ rfl (fun h2 => ?_) (fun h2 => ?_)
    · refine twp_rseq ?_
      refine s_rd _ rfl (rd_callRN rfl rfl snaps_nil alive_n) ?_
      refine s_rd _ rfl (mv_d (.inr rfl) rfl) ?_
      refine tops_nil ?_
      refine twp_norm [6] (sub_d rfl .nil) (blk_box rfl (blk_box rfl (blk_box rfl (blk_nil rfl)))) ?_
      refine twp_ret ?_
      refine way_thenRet ?_
      exact Ends.plain _ rfl
    · refine twp_skip ?_
      refine way_then ?_
      refine twp_norm [3, 4, 5] (sub_mptr rfl (sub_mptr rfl (sub_mptr rfl .nil))) (blk_box rfl (blk_box rfl (blk_box rfl (blk_nil rfl)))) ?_
      refine twp_dseq follows  ?_
      first | refine d_rd [] _ rfl rfl (by first | exact load_boxA_d rfl lay25 rfl rfl (Nat.le_of_ble_eq_true rfl) rfl | exact load_boxA rfl lay25 rfl rfl (Nat.le_of_ble_eq_true rfl) rfl) ?_ | refine d_rd [0] _ rfl rfl (by first | exact load_boxA_d rfl lay25 rfl rfl (Nat.le_of_ble_eq_true rfl) rfl | exact load_boxA rfl lay25 rfl rfl (Nat.le_of_ble_eq_true rfl) rfl) ?_ | refine d_rd [1] _ rfl rfl (by first | exact load_boxA_d rfl lay25 rfl rfl (Nat.le_of_ble_eq_true rfl) rfl | exact load_boxA rfl lay25 rfl rfl (Nat.le_of_ble_eq_true rfl) rfl) ?_ | refine d_rd [2] _ rfl rfl (by first | exact load_boxA_d rfl lay25 rfl rfl (Nat.le_of_ble_eq_true rfl) rfl | exact load_boxA rfl lay25 rfl rfl (Nat.le_of_ble_eq_true rfl) rfl) ?_
      first | refine d_rd [] _ rfl rfl (rd_callRD rfl rfl rfl (startP_d p hp (by omega) (by omega))) ?_ | refine d_rd [0] _ rfl rfl (rd_callRD rfl rfl rfl (startP_d p hp (by omega) (by omega))) ?_ | refine d_rd [1] _ rfl rfl (rd_callRD rfl rfl rfl (startP_d p hp (by omega) (by omega))) ?_ | refine d_rd [2] _ rfl rfl (rd_callRD rfl rfl rfl (startP_d p hp (by omega) (by omega))) ?_
      first | refine d_rd [] _ rfl rfl (by first | exact load_boxA_d rfl lay25 rfl rfl (Nat.le_of_ble_eq_true rfl) rfl | exact load_boxA rfl lay25 rfl rfl (Nat.le_of_ble_eq_true rfl) rfl) ?_ | refine d_rd [0] _ rfl rfl (by first | exact load_boxA_d rfl lay25 rfl rfl (Nat.le_of_ble_eq_true rfl) rfl | exact load_boxA rfl lay25 rfl rfl (Nat.le_of_ble_eq_true rfl) rfl) ?_ | refine d_rd [1] _ rfl rfl (by first | exact load_boxA_d rfl lay25 rfl rfl (Nat.le_of_ble_eq_true rfl) rfl | exact load_boxA rfl lay25 rfl rfl (Nat.le_of_ble_eq_true rfl) rfl) ?_ | refine d_rd [2] _ rfl rfl (by first | exact load_boxA_d rfl lay25 rfl rfl (Nat.le_of_ble_eq_true rfl) rfl | exact load_boxA rfl lay25 rfl rfl (Nat.le_of_ble_eq_true rfl) rfl) ?_
      first | refine d_rd [] _ rfl rfl (rd_callRD rfl rfl rfl (startR_d p hp (by omega) (by omega) hs)) ?_ | refine d_rd [0] _ rfl rfl (rd_callRD rfl rfl rfl (startR_d p hp (by omega) (by omega) hs)) ?_ | refine d_rd [1] _ rfl rfl (rd_callRD rfl rfl rfl (startR_d p hp (by omega) (by omega) hs)) ?_ | refine d_rd [2] _ rfl rfl (rd_callRD rfl rfl rfl (startR_d p hp (by omega) (by omega) hs)) ?_
      first | refine d_rd [] _ rfl rfl (rd_callRD rfl rfl rfl ((sameR_n p.start p.start (p.start_wf hp) (p.start_wf hp)).retD)) ?_ | refine d_rd [0] _ rfl rfl (rd_callRD rfl rfl rfl ((sameR_n p.start p.start (p.start_wf hp) (p.start_wf hp)).retD)) ?_ | refine d_rd [1] _ rfl rfl (rd_callRD rfl rfl rfl ((sameR_n p.start p.start (p.start_wf hp) (p.start_wf hp)).retD)) ?_ | refine d_rd [2] _ rfl rfl (rd_callRD rfl rfl rfl ((sameR_n p.start p.start (p.start_wf hp) (p.start_wf hp)).retD)) ?_
      refine d_rd [] _ rfl rfl (mv_d (.inl rfl) rfl) ?_
      first | refine d_rd [] _ rfl (on_yes rfl rfl rfl (Mch.same_self _)) (by first | exact load_boxA_d rfl lay25 rfl rfl (Nat.le_of_ble_eq_true rfl) rfl | exact load_boxA rfl lay25 rfl rfl (Nat.le_of_ble_eq_true rfl) rfl) ?_ | refine d_rd [0] _ rfl (on_yes rfl rfl rfl (Mch.same_self _)) (by first | exact load_boxA_d rfl lay25 rfl rfl (Nat.le_of_ble_eq_true rfl) rfl | exact load_boxA rfl lay25 rfl rfl (Nat.le_of_ble_eq_true rfl) rfl) ?_ | refine d_rd [1] _ rfl (on_yes rfl rfl rfl (Mch.same_self _)) (by first | exact load_boxA_d rfl lay25 rfl rfl (Nat.le_of_ble_eq_true rfl) rfl | exact load_boxA rfl lay25 rfl rfl (Nat.le_of_ble_eq_true rfl) rfl) ?_ | refine d_rd [2] _ rfl (on_yes rfl rfl rfl (Mch.same_self _)) (by first | exact load_boxA_d rfl lay25 rfl rfl (Nat.le_of_ble_eq_true rfl) rfl | exact load_boxA rfl lay25 rfl rfl (Nat.le_of_ble_eq_true rfl) rfl) ?_
      first | refine d_rd [] _ rfl (on_yes rfl rfl rfl (Mch.same_self _)) (rd_callRD rfl rfl rfl (haltP_d p hp (by omega) (by omega))) ?_ | refine d_rd [0] _ rfl (on_yes rfl rfl rfl (Mch.same_self _)) (rd_callRD rfl rfl rfl (haltP_d p hp (by omega) (by omega))) ?_ | refine d_rd [1] _ rfl (on_yes rfl rfl rfl (Mch.same_self _)) (rd_callRD rfl rfl rfl (haltP_d p hp (by omega) (by omega))) ?_ | refine d_rd [2] _ rfl (on_yes rfl rfl rfl (Mch.same_self _)) (rd_callRD rfl rfl rfl (haltP_d p hp (by omega) (by omega))) ?_
      first | refine d_rd [] _ rfl (on_yes rfl rfl rfl (Mch.same_self _)) (by first | exact load_boxA_d rfl lay25 rfl rfl (Nat.le_of_ble_eq_true rfl) rfl | exact load_boxA rfl lay25 rfl rfl (Nat.le_of_ble_eq_true rfl) rfl) ?_ | refine d_rd [0] _ rfl (on_yes rfl rfl rfl (Mch.same_self _)) (by first | exact load_boxA_d rfl lay25 rfl rfl (Nat.le_of_ble_eq_true rfl) rfl | exact load_boxA rfl lay25 rfl rfl (Nat.le_of_ble_eq_true rfl) rfl) ?_ | refine d_rd [1] _ rfl (on_yes rfl rfl rfl (Mch.same_self _)) (by first | exact load_boxA_d rfl lay25 rfl rfl (Nat.le_of_ble_eq_true rfl) rfl | exact load_boxA rfl lay25 rfl rfl (Nat.le_of_ble_eq_true rfl) rfl) ?_ | refine d_rd [2] _ rfl (on_yes rfl rfl rfl (Mch.same_self _)) (by first | exact load_boxA_d rfl lay25 rfl rfl (Nat.le_of_ble_eq_true rfl) rfl | exact load_boxA rfl lay25 rfl rfl (Nat.le_of_ble_eq_true rfl) rfl) ?_
      first | refine d_rd [] _ rfl (on_yes rfl rfl rfl (Mch.same_self _)) (rd_callRD rfl rfl rfl (haltR_d p hp (by omega) (by omega) hs)) ?_ | refine d_rd [0] _ rfl (on_yes rfl rfl rfl (Mch.same_self _)) (rd_callRD rfl rfl rfl (haltR_d p hp (by omega) (by omega) hs)) ?_ | refine d_rd [1] _ rfl (on_yes rfl rfl rfl (Mch.same_self _)) (rd_callRD rfl rfl rfl (haltR_d p hp (by omega) (by omega) hs)) ?_ | refine d_rd [2] _ rfl (on_yes rfl rfl rfl (Mch.same_self _)) (rd_callRD rfl rfl rfl (haltR_d p hp (by omega) (by omega) hs)) ?_
      first | refine d_rd [] _ rfl (on_yes rfl rfl rfl (Mch.same_self _)) (rd_callRD rfl rfl rfl ((sameR_n p.halt p.halt (p.halt_wf hp) (p.halt_wf hp)).retD)) ?_ | refine d_rd [0] _ rfl (on_yes rfl rfl rfl (Mch.same_self _)) (rd_callRD rfl rfl rfl ((sameR_n p.halt p.halt (p.halt_wf hp) (p.halt_wf hp)).retD)) ?_ | refine d_rd [1] _ rfl (on_yes rfl rfl rfl (Mch.same_self _)) (rd_callRD rfl rfl rfl ((sameR_n p.halt p.halt (p.halt_wf hp) (p.halt_wf hp)).retD)) ?_ | refine d_rd [2] _ rfl (on_yes rfl rfl rfl (Mch.same_self _)) (rd_callRD rfl rfl rfl ((sameR_n p.halt p.halt (p.halt_wf hp) (p.halt_wf hp)).retD)) ?_
      refine d_rd [] _ rfl rfl (pickh_T rfl rfl (Mch.same_self _) rfl) ?_
      refine d_rd [] _ rfl rfl (mv_d (.inl rfl) rfl) ?_
      first | refine d_rd [] _ rfl (on_yes rfl rfl rfl (Mch.same_self _)) (by first | exact load_boxA_d rfl lay25 rfl rfl (Nat.le_of_ble_eq_true rfl) rfl | exact load_boxA rfl lay25 rfl rfl (Nat.le_of_ble_eq_true rfl) rfl) ?_ | refine d_rd [0] _ rfl (on_yes rfl rfl rfl (Mch.same_self _)) (by first | exact load_boxA_d rfl lay25 rfl rfl (Nat.le_of_ble_eq_true rfl) rfl | exact load_boxA rfl lay25 rfl rfl (Nat.le_of_ble_eq_true rfl) rfl) ?_ | refine d_rd [1] _ rfl (on_yes rfl rfl rfl (Mch.same_self _)) (by first | exact load_boxA_d rfl lay25 rfl rfl (Nat.le_of_ble_eq_true rfl) rfl | exact load_boxA rfl lay25 rfl rfl (Nat.le_of_ble_eq_true rfl) rfl) ?_ | refine d_rd [2] _ rfl (on_yes rfl rfl rfl (Mch.same_self _)) (by first | exact load_boxA_d rfl lay25 rfl rfl (Nat.le_of_ble_eq_true rfl) rfl | exact load_boxA rfl lay25 rfl rfl (Nat.le_of_ble_eq_true rfl) rfl) ?_
      first | refine d_rd [] _ rfl (on_yes rfl rfl rfl (Mch.same_self _)) (by first | exact load_boxA_d rfl lay34 rfl rfl (Nat.le_of_ble_eq_true rfl) rfl | exact load_boxA rfl lay34 rfl rfl (Nat.le_of_ble_eq_true rfl) rfl) ?_ | refine d_rd [0] _ rfl (on_yes rfl rfl rfl (Mch.same_self _)) (by first | exact load_boxA_d rfl lay34 rfl rfl (Nat.le_of_ble_eq_true rfl) rfl | exact load_boxA rfl lay34 rfl rfl (Nat.le_of_ble_eq_true rfl) rfl) ?_ | refine d_rd [1] _ rfl (on_yes rfl rfl rfl (Mch.same_self _)) (by first | exact load_boxA_d rfl lay34 rfl rfl (Nat.le_of_ble_eq_true rfl) rfl | exact load_boxA rfl lay34 rfl rfl (Nat.le_of_ble_eq_true rfl) rfl) ?_ | refine d_rd [2] _ rfl (on_yes rfl rfl rfl (Mch.same_self _)) (by first | exact load_boxA_d rfl lay34 rfl rfl (Nat.le_of_ble_eq_true rfl) rfl | exact load_boxA rfl lay34 rfl rfl (Nat.le_of_ble_eq_true rfl) rfl) ?_
      first | refine d_rd [] _ rfl (on_yes rfl rfl rfl (Mch.same_self _)) (rd_callRD rfl rfl rfl ((fitsP_n p m hp hm).retD)) ?_ | refine d_rd [0] _ rfl (on_yes rfl rfl rfl (Mch.same_self _)) (rd_callRD rfl rfl rfl ((fitsP_n p m hp hm).retD)) ?_ | refine d_rd [1] _ rfl (on_yes rfl rfl rfl (Mch.same_self _)) (rd_callRD rfl rfl rfl ((fitsP_n p m hp hm).retD)) ?_ | refine d_rd [2] _ rfl (on_yes rfl rfl rfl (Mch.same_self _)) (rd_callRD rfl rfl rfl ((fitsP_n p m hp hm).retD)) ?_
      first | refine d_rd [] _ rfl (on_yes rfl rfl rfl (Mch.same_self _)) (by first | exact load_boxA_d rfl lay25 rfl rfl (Nat.le_of_ble_eq_true rfl) rfl | exact load_boxA rfl lay25 rfl rfl (Nat.le_of_ble_eq_true rfl) rfl) ?_ | refine d_rd [0] _ rfl (on_yes rfl rfl rfl (Mch.same_self _)) (by first | exact load_boxA_d rfl lay25 rfl rfl (Nat.le_of_ble_eq_true rfl) rfl | exact load_boxA rfl lay25 rfl rfl (Nat.le_of_ble_eq_true rfl) rfl) ?_ | refine d_rd [1] _ rfl (on_yes rfl rfl rfl (Mch.same_self _)) (by first | exact load_boxA_d rfl lay25 rfl rfl (Nat.le_of_ble_eq_true rfl) rfl | exact load_boxA rfl lay25 rfl rfl (Nat.le_of_ble_eq_true rfl) rfl) ?_ | refine d_rd [2] _ rfl (on_yes rfl rfl rfl (Mch.same_self _)) (by first | exact load_boxA_d rfl lay25 rfl rfl (Nat.le_of_ble_eq_true rfl) rfl | exact load_boxA rfl lay25 rfl rfl (Nat.le_of_ble_eq_true rfl) rfl) ?_
      first | refine d_rd [] _ rfl (on_yes rfl rfl rfl (Mch.same_self _)) (by first | exact load_boxA_d rfl lay34 rfl rfl (Nat.le_of_ble_eq_true rfl) rfl | exact load_boxA rfl lay34 rfl rfl (Nat.le_of_ble_eq_true rfl) rfl) ?_ | refine d_rd [0] _ rfl (on_yes rfl rfl rfl (Mch.same_self _)) (by first | exact load_boxA_d rfl lay34 rfl rfl (Nat.le_of_ble_eq_true rfl) rfl | exact load_boxA rfl lay34 rfl rfl (Nat.le_of_ble_eq_true rfl) rfl) ?_ | refine d_rd [1] _ rfl (on_yes rfl rfl rfl (Mch.same_self _)) (by first | exact load_boxA_d rfl lay34 rfl rfl (Nat.le_of_ble_eq_true rfl) rfl | exact load_boxA rfl lay34 rfl rfl (Nat.le_of_ble_eq_true rfl) rfl) ?_ | refine d_rd [2] _ rfl (on_yes rfl rfl rfl (Mch.same_self _)) (by first | exact load_boxA_d rfl lay34 rfl rfl (Nat.le_of_ble_eq_true rfl) rfl | exact load_boxA rfl lay34 rfl rfl (Nat.le_of_ble_eq_true rfl) rfl) ?_
      first | refine d_rd [] _ rfl (on_yes rfl rfl rfl (Mch.same_self _)) (rd_callRD rfl rfl rfl ((fitsR_n p m hp hm hs).retD)) ?_ | refine d_rd [0] _ rfl (on_yes rfl rfl rfl (Mch.same_self _)) (rd_callRD rfl rfl rfl ((fitsR_n p m hp hm hs).retD)) ?_ | refine d_rd [1] _ rfl (on_yes rfl rfl rfl (Mch.same_self _)) (rd_callRD rfl rfl rfl ((fitsR_n p m hp hm hs).retD)) ?_ | refine d_rd [2] _ rfl (on_yes rfl rfl rfl (Mch.same_self _)) (rd_callRD rfl rfl rfl ((fitsR_n p m hp hm hs).retD)) ?_
      refine d_rd [] _ rfl (on_yes rfl rfl rfl (Mch.same_self _)) (cmp_bool Try.underlying4 rfl rfl rfl rfl) ?_
      refine d_rd [] _ rfl rfl (pickh_T rfl rfl (Mch.same_self _) rfl) ?_
      refine d_rd [] _ rfl rfl (mv_d (.inl rfl) rfl) ?_
      first | refine d_rd [] _ rfl (on_yes rfl rfl rfl (by simp)) (by first | exact load_boxA_d rfl lay34 rfl rfl (Nat.le_of_ble_eq_true rfl) rfl | exact load_boxA rfl lay34 rfl rfl (Nat.le_of_ble_eq_true rfl) rfl) ?_ | refine d_rd [0] _ rfl (on_yes rfl rfl rfl (by simp)) (by first | exact load_boxA_d rfl lay34 rfl rfl (Nat.le_of_ble_eq_true rfl) rfl | exact load_boxA rfl lay34 rfl rfl (Nat.le_of_ble_eq_true rfl) rfl) ?_ | refine d_rd [1] _ rfl (on_yes rfl rfl rfl (by simp)) (by first | exact load_boxA_d rfl lay34 rfl rfl (Nat.le_of_ble_eq_true rfl) rfl | exact load_boxA rfl lay34 rfl rfl (Nat.le_of_ble_eq_true rfl) rfl) ?_ | refine d_rd [2] _ rfl (on_yes rfl rfl rfl (by simp)) (by first | exact load_boxA_d rfl lay34 rfl rfl (Nat.le_of_ble_eq_true rfl) rfl | exact load_boxA rfl lay34 rfl rfl (Nat.le_of_ble_eq_true rfl) rfl) ?_
      first | refine d_rd [] _ rfl (on_yes rfl rfl rfl (by simp)) (by first | exact load_boxA_d rfl lay34 rfl rfl (Nat.le_of_ble_eq_true rfl) rfl | exact load_boxA rfl lay34 rfl rfl (Nat.le_of_ble_eq_true rfl) rfl) ?_ | refine d_rd [0] _ rfl (on_yes rfl rfl rfl (by simp)) (by first | exact load_boxA_d rfl lay34 rfl rfl (Nat.le_of_ble_eq_true rfl) rfl | exact load_boxA rfl lay34 rfl rfl (Nat.le_of_ble_eq_true rfl) rfl) ?_ | refine d_rd [1] _ rfl (on_yes rfl rfl rfl (by simp)) (by first | exact load_boxA_d rfl lay34 rfl rfl (Nat.le_of_ble_eq_true rfl) rfl | exact load_boxA rfl lay34 rfl rfl (Nat.le_of_ble_eq_true rfl) rfl) ?_ | refine d_rd [2] _ rfl (on_yes rfl rfl rfl (by simp)) (by first | exact load_boxA_d rfl lay34 rfl rfl (Nat.le_of_ble_eq_true rfl) rfl | exact load_boxA rfl lay34 rfl rfl (Nat.le_of_ble_eq_true rfl) rfl) ?_
      first | refine d_rd [] _ rfl (on_yes rfl rfl rfl (by simp)) (rd_callRD rfl rfl rfl ((sameP_n m n hm hn).retD)) ?_ | refine d_rd [0] _ rfl (on_yes rfl rfl rfl (by simp)) (rd_callRD rfl rfl rfl ((sameP_n m n hm hn).retD)) ?_ | refine d_rd [1] _ rfl (on_yes rfl rfl rfl (by simp)) (rd_callRD rfl rfl rfl ((sameP_n m n hm hn).retD)) ?_ | refine d_rd [2] _ rfl (on_yes rfl rfl rfl (by simp)) (rd_callRD rfl rfl rfl ((sameP_n m n hm hn).retD)) ?_
      first | refine d_rd [] _ rfl (on_yes rfl rfl rfl (by simp)) (by first | exact load_boxA_d rfl lay34 rfl rfl (Nat.le_of_ble_eq_true rfl) rfl | exact load_boxA rfl lay34 rfl rfl (Nat.le_of_ble_eq_true rfl) rfl) ?_ | refine d_rd [0] _ rfl (on_yes rfl rfl rfl (by simp)) (by first | exact load_boxA_d rfl lay34 rfl rfl (Nat.le_of_ble_eq_true rfl) rfl | exact load_boxA rfl lay34 rfl rfl (Nat.le_of_ble_eq_true rfl) rfl) ?_ | refine d_rd [1] _ rfl (on_yes rfl rfl rfl (by simp)) (by first | exact load_boxA_d rfl lay34 rfl rfl (Nat.le_of_ble_eq_true rfl) rfl | exact load_boxA rfl lay34 rfl rfl (Nat.le_of_ble_eq_true rfl) rfl) ?_ | refine d_rd [2] _ rfl (on_yes rfl rfl rfl (by simp)) (by first | exact load_boxA_d rfl lay34 rfl rfl (Nat.le_of_ble_eq_true rfl) rfl | exact load_boxA rfl lay34 rfl rfl (Nat.le_of_ble_eq_true rfl) rfl) ?_
      first | refine d_rd [] _ rfl (on_yes rfl rfl rfl (by simp)) (by first | exact load_boxA_d rfl lay34 rfl rfl (Nat.le_of_ble_eq_true rfl) rfl | exact load_boxA rfl lay34 rfl rfl (Nat.le_of_ble_eq_true rfl) rfl) ?_ | refine d_rd [0] _ rfl (on_yes rfl rfl rfl (by simp)) (by first | exact load_boxA_d rfl lay34 rfl rfl (Nat.le_of_ble_eq_true rfl) rfl | exact load_boxA rfl lay34 rfl rfl (Nat.le_of_ble_eq_true rfl) rfl) ?_ | refine d_rd [1] _ rfl (on_yes rfl rfl rfl (by simp)) (by first | exact load_boxA_d rfl lay34 rfl rfl (Nat.le_of_ble_eq_true rfl) rfl | exact load_boxA rfl lay34 rfl rfl (Nat.le_of_ble_eq_true rfl) rfl) ?_ | refine d_rd [2] _ rfl (on_yes rfl rfl rfl (by simp)) (by first | exact load_boxA_d rfl lay34 rfl rfl (Nat.le_of_ble_eq_true rfl) rfl | exact load_boxA rfl lay34 rfl rfl (Nat.le_of_ble_eq_true rfl) rfl) ?_
      first | refine d_rd [] _ rfl (on_yes rfl rfl rfl (by simp)) (rd_callRD rfl rfl rfl ((sameR_n m n hm hn).retD)) ?_ | refine d_rd [0] _ rfl (on_yes rfl rfl rfl (by simp)) (rd_callRD rfl rfl rfl ((sameR_n m n hm hn).retD)) ?_ | refine d_rd [1] _ rfl (on_yes rfl rfl rfl (by simp)) (rd_callRD rfl rfl rfl ((sameR_n m n hm hn).retD)) ?_ | refine d_rd [2] _ rfl (on_yes rfl rfl rfl (by simp)) (rd_callRD rfl rfl rfl ((sameR_n m n hm hn).retD)) ?_
      refine d_rd [] _ rfl (on_yes rfl rfl rfl (by simp)) (cmp_bool Try.underlying4 rfl rfl rfl rfl) ?_
      refine d_rd [] _ rfl rfl (pickh_T rfl rfl (by simp) rfl) ?_
      refine d_rd [] _ rfl rfl (mv_d (.inl rfl) rfl) ?_
      first | refine d_rd [] _ rfl (on_yes rfl rfl rfl (by simp)) (by first | exact load_boxA_d rfl lay34 rfl rfl (Nat.le_of_ble_eq_true rfl) rfl | exact load_boxA rfl lay34 rfl rfl (Nat.le_of_ble_eq_true rfl) rfl) ?_ | refine d_rd [0] _ rfl (on_yes rfl rfl rfl (by simp)) (by first | exact load_boxA_d rfl lay34 rfl rfl (Nat.le_of_ble_eq_true rfl) rfl | exact load_boxA rfl lay34 rfl rfl (Nat.le_of_ble_eq_true rfl) rfl) ?_ | refine d_rd [1] _ rfl (on_yes rfl rfl rfl (by simp)) (by first | exact load_boxA_d rfl lay34 rfl rfl (Nat.le_of_ble_eq_true rfl) rfl | exact load_boxA rfl lay34 rfl rfl (Nat.le_of_ble_eq_true rfl) rfl) ?_ | refine d_rd [2] _ rfl (on_yes rfl rfl rfl (by simp)) (by first | exact load_boxA_d rfl lay34 rfl rfl (Nat.le_of_ble_eq_true rfl) rfl | exact load_boxA rfl lay34 rfl rfl (Nat.le_of_ble_eq_true rfl) rfl) ?_
      first | refine d_rd [] _ rfl (on_yes rfl rfl rfl (by simp)) (by first | exact load_boxA_d rfl lay34 rfl rfl (Nat.le_of_ble_eq_true rfl) rfl | exact load_boxA rfl lay34 rfl rfl (Nat.le_of_ble_eq_true rfl) rfl) ?_ | refine d_rd [0] _ rfl (on_yes rfl rfl rfl (by simp)) (by first | exact load_boxA_d rfl lay34 rfl rfl (Nat.le_of_ble_eq_true rfl) rfl | exact load_boxA rfl lay34 rfl rfl (Nat.le_of_ble_eq_true rfl) rfl) ?_ | refine d_rd [1] _ rfl (on_yes rfl rfl rfl (by simp)) (by first | exact load_boxA_d rfl lay34 rfl rfl (Nat.le_of_ble_eq_true rfl) rfl | exact load_boxA rfl lay34 rfl rfl (Nat.le_of_ble_eq_true rfl) rfl) ?_ | refine d_rd [2] _ rfl (on_yes rfl rfl rfl (by simp)) (by first | exact load_boxA_d rfl lay34 rfl rfl (Nat.le_of_ble_eq_true rfl) rfl | exact load_boxA rfl lay34 rfl rfl (Nat.le_of_ble_eq_true rfl) rfl) ?_
      first | refine d_rd [] _ rfl (on_yes rfl rfl rfl (by simp)) (rd_callRD rfl rfl rfl ((sameP_n m m hm hm).retD)) ?_ | refine d_rd [0] _ rfl (on_yes rfl rfl rfl (by simp)) (rd_callRD rfl rfl rfl ((sameP_n m m hm hm).retD)) ?_ | refine d_rd [1] _ rfl (on_yes rfl rfl rfl (by simp)) (rd_callRD rfl rfl rfl ((sameP_n m m hm hm).retD)) ?_ | refine d_rd [2] _ rfl (on_yes rfl rfl rfl (by simp)) (rd_callRD rfl rfl rfl ((sameP_n m m hm hm).retD)) ?_
      refine d_rd [] _ rfl rfl (pickh_T rfl rfl (by simp) rfl) ?_
      refine d_rd [] _ rfl rfl (mv_d (.inl rfl) rfl) ?_
      first | refine d_rd [] _ rfl (on_yes rfl rfl rfl (Mch.same_self _)) (rd_callRN rfl rfl snaps_nil alive_n) ?_ | refine d_rd [0] _ rfl (on_yes rfl rfl rfl (Mch.same_self _)) (rd_callRN rfl rfl snaps_nil alive_n) ?_ | refine d_rd [1] _ rfl (on_yes rfl rfl rfl (Mch.same_self _)) (rd_callRN rfl rfl snaps_nil alive_n) ?_ | refine d_rd [2] _ rfl (on_yes rfl rfl rfl (Mch.same_self _)) (rd_callRN rfl rfl snaps_nil alive_n) ?_
      refine d_rd [] _ rfl rfl (pickh_T rfl rfl (Mch.same_self _) rfl) ?_
      refine d_tail ?_ (by kernel_rfl)
      refine s_rd _ rfl (mv_d (.inr rfl) rfl) ?_
      refine tops_nil ?_
      refine twp_norm [6] (sub_d rfl .nil) (blk_box rfl (blk_box rfl (blk_box rfl (blk_nil rfl)))) ?_
      refine twp_ret ?_
      exact Ends.plain _ rfl

theorem plcStarts_holds_args {H : Type} (ds : List (DataW H)) (h : ds.length = Try.f4.params.toList.length) : Rows.plcStartsSpec.fn H ds = { results := [.lit (.bool true)], args := ds } := by
  have h : ds.length = 3 := h
  match ds, h with
  | [d0, d1, d2], _ => rfl
theorem plcStarts_holds_true (ds : List D) (h : ArgsOk Try.prog Try.f4.params.toList ds) : Ret Try.prog 4 [] (fun _ => false) (ds.map .d) (.d (.bool true)) [] := by
  have h : ArgsOk Try.prog [25, 34, 34] ds := h
  match ds, h with
  | [_, _, _], ⟨⟨c0, _, t0, rfl⟩, ⟨⟨c1, _, t1, rfl⟩, ⟨⟨c2, _, t2, rfl⟩, _⟩⟩⟩ =>
      obtain ⟨p, hp, e0⟩ := ty25 c0 t0
      obtain ⟨m, hm, e1⟩ := ty34 c1 t1
      obtain ⟨n, hn, e2⟩ := ty34 c2 t2
      simp only [e0, e1, e2]
      exact (plcStarts_ret p m n hp hm hn)
theorem plcStarts_holds : Rows.PlcStartsSaid :=
  OpenClaim.holds_of_wide 4 Try.f4 rfl rfl rfl rfl rfl rfl rfl ⟨rfl, rfl, rfl, rfl, rfl⟩ rfl rfl rfl rfl rfl (by kernel_rfl) Try.func4 (by kernel_rfl)
    (of_decide_eq_true (by kernel_rfl)) (by unfold Func.isWrapper; first | (rw [if_pos (by decide +kernel)]; kernel_rfl) | (rw [if_neg (by decide +kernel)]; exact ⟨rfl, rfl⟩))
    (fun os started H enc _ => law_lifted [25, 22, 9, 3, 23, 50, 47, 45, 34, 31, 4, 32] (C := Try.checked) os own started laidOut (by kernel_rfl) Try.func4
      (ChangeSpec.witness6 (enc := enc) (C := Try.checked) false ⟨#[], #[.agg #[.slice none 0 0, .int .i64 0, .slice none 0 0], .agg #[.slice none 0 0, .slice none 0 0, .bool false], .agg #[.slice none 0 0, .slice none 0 0, .bool false]], []⟩ 8 (by kernel_rfl) (by kernel_rfl) (by kernel_rfl) (by kernel_rfl)) (by kernel_rfl) rfl plcStarts_holds_args plcStarts_holds_true)

end Go.Proofs.Yteedddlipoonoaa
