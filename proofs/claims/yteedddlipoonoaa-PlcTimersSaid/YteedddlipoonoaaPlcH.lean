/- Machines that fit, small programs, what a rung does; walked. No condition. -/
import Derived.Test.YteedddlipoonoaaPlcG
import Derived.KernelRfl
set_option linter.unusedSimpArgs false
set_option linter.unusedVariables false
namespace Go.Proofs.Yteedddlipoonoaa
open Go Go.TL

theorem callB19 : callB Try.prog 19 = true := by kernel_rfl

theorem fitsP_step (p : Prg) (m : Mch) (hp : p.Wf) (hm : m.Wf)  : Ret Try.prog 19 [] (fun _ => false) ([p.enc, m.enc].map .d) (.d (.bool (p.fits m))) [] := by
  have hrl := hp.rungs
  have hcl := hm.counts
  refine ret_body callB19 Try.func19 rfl Try.ntmps19 rfl rfl (fun wX gX => ?_)
  refine twp_norm [0, 1] (sub_d rfl (sub_d rfl .nil)) (blk_nil rfl) ?_
  refine twp_rseq ?_
  refine s_boxA rfl rfl rfl ?_
  refine s_eq 2 (.mptr 0 0 0 0) rfl rfl ?_
  refine s_boxA rfl rfl rfl ?_
  refine s_eq 3 (.mptr 1 0 0 0) rfl rfl ?_
  refine s_rd _ rfl (mv_d (.inr rfl) rfl) ?_
  refine tops_nil ?_
  refine twp_norm [2, 3] (sub_mptr rfl (sub_mptr rfl .nil)) (blk_boxN rfl (by repeat (first | exact NormC.nil rfl | apply nc_d rfl | apply nc_msl rfl | apply nc_mptr rfl | apply nc_fnc rfl)) (blk_boxN rfl (by repeat (first | exact NormC.nil rfl | apply nc_d rfl | apply nc_msl rfl | apply nc_mptr rfl | apply nc_fnc rfl)) (blk_nil rfl))) ?_
  refine twp_seq ?_
  refine twp_rseq ?_
  refine s_rd _ rfl (by first | exact load_boxA_d rfl lay25 rfl rfl (Nat.le_of_ble_eq_true rfl) rfl | exact load_boxA rfl lay25 rfl rfl (Nat.le_of_ble_eq_true rfl) rfl) ?_
  refine s_rd _ rfl (rd_callRD rfl rfl rfl ((checkP_n p hp).retD)) ?_
  refine s_rd _ rfl (cmp_int rfl rfl rfl rfl) ?_
  refine s_rd _ rfl (mv_d (.inl rfl) rfl) ?_
  refine s_split 10 rfl (fun c1 => ?_) (fun c1 => ?_)
  · have hno : p.fits m = false := by simp at c1; simp [Prg.fits, c1]
    refine s_no rfl rfl rfl rfl ?_
    refine s_no rfl rfl rfl rfl ?_
    refine s_no rfl rfl rfl rfl ?_
    refine s_no rfl rfl rfl rfl ?_
    refine s_no rfl rfl rfl rfl ?_
    refine s_no rfl rfl rfl rfl ?_
    refine s_no rfl rfl rfl rfl ?_
    refine s_rd _ rfl (by first | exact pick_Td rfl rfl rfl | exact pick_T rfl rfl rfl) ?_
    refine s_rd _ rfl (mv_d (.inl rfl) rfl) ?_
    refine s_no rfl rfl rfl rfl ?_
    refine s_no rfl rfl rfl rfl ?_
    refine s_no rfl rfl rfl rfl ?_
    refine s_no rfl rfl rfl rfl ?_
    refine s_no rfl rfl rfl rfl ?_
    refine s_no rfl rfl rfl rfl ?_
    refine s_no rfl rfl rfl rfl ?_
    refine s_rd _ rfl (by first | exact pick_Td rfl rfl rfl | exact pick_T rfl rfl rfl) ?_
    refine tops_nil ?_
    refine twp_norm [2, 3, 27] (sub_mptr rfl (sub_mptr rfl (sub_d rfl .nil))) (blk_box rfl (blk_box rfl (blk_nil rfl))) ?_
    refine twp_cond true rfl (fun _ => ?_) (fun h => by cases h)
    refine twp_rseq ?_
    refine s_rd _ rfl (mv_d (.inr rfl) rfl) ?_
    refine tops_nil ?_
    refine twp_norm [4] (sub_d rfl .nil) (blk_box rfl (blk_box rfl (blk_nil rfl))) ?_
    refine twp_ret ?_
    refine way_thenRet ?_
    exact Ends.plainB _ rfl (by first | rw [hno] | rw [hyes])
  · have c1 : p.check = 0 := by simpa using c1
    refine s_yes rfl rfl rfl ?_
    refine s_rd _ rfl (fieldAddr_mptr rfl fld34_0 rfl rfl) ?_
    refine s_yes rfl rfl rfl ?_
    refine s_rd _ rfl (by first | exact load_box_d rfl lay31 rfl rfl rfl | exact load_box rfl lay31 rfl rfl rfl) ?_
    refine s_yes rfl rfl rfl ?_
    refine s_rd _ rfl (by first | exact len_d rfl sel31 rfl (by first | exact List.length_map _ | rfl) | exact len_msl rfl sel31 rfl | exact len_nil rfl sel31 rfl) ?_
    refine s_yes rfl rfl rfl ?_
    refine s_rd _ rfl (fieldAddr_mptr rfl fld25_0 rfl rfl) ?_
    refine s_yes rfl rfl rfl ?_
    refine s_rd _ rfl (by first | exact load_box_d rfl lay22 rfl rfl rfl | exact load_box rfl lay22 rfl rfl rfl) ?_
    refine s_yes rfl rfl rfl ?_
    refine s_rd _ rfl (by first | exact len_d rfl sel22 rfl (by first | exact List.length_map _ | rfl) | exact len_msl rfl sel22 rfl | exact len_nil rfl sel22 rfl) ?_
    refine s_yes rfl rfl rfl ?_
    refine s_rd _ rfl (cmp_int rfl rfl rfl rfl) ?_
    refine s_rd _ rfl (by first | exact pick_Fd rfl rfl rfl | exact pick_F rfl rfl rfl) ?_
    refine s_rd _ rfl (mv_d (.inl rfl) rfl) ?_
    refine s_split 19 rfl (fun c2 => ?_) (fun c2 => ?_)
    · have hx : ¬ m.vars.length = p.names.length := by simp at c2; omega
      have hno : p.fits m = false := by simp [Prg.fits, hx]
      refine s_no rfl rfl rfl rfl ?_
      refine s_no rfl rfl rfl rfl ?_
      refine s_no rfl rfl rfl rfl ?_
      refine s_no rfl rfl rfl rfl ?_
      refine s_no rfl rfl rfl rfl ?_
      refine s_no rfl rfl rfl rfl ?_
      refine s_no rfl rfl rfl rfl ?_
      refine s_rd _ rfl (by first | exact pick_Td rfl rfl rfl | exact pick_T rfl rfl rfl) ?_
      refine tops_nil ?_
      refine twp_norm [2, 3, 27] (sub_mptr rfl (sub_mptr rfl (sub_d rfl .nil))) (blk_box rfl (blk_box rfl (blk_nil rfl))) ?_
      refine twp_cond true rfl (fun _ => ?_) (fun h => by cases h)
      refine twp_rseq ?_
      refine s_rd _ rfl (mv_d (.inr rfl) rfl) ?_
      refine tops_nil ?_
      refine twp_norm [4] (sub_d rfl .nil) (blk_box rfl (blk_box rfl (blk_nil rfl))) ?_
      refine twp_ret ?_
      refine way_thenRet ?_
      exact Ends.plainB _ rfl (by first | rw [hno] | rw [hyes])
    · have c2 : m.vars.length = p.names.length := by simp at c2; omega
      refine s_yes rfl rfl rfl ?_
      refine s_rd _ rfl (fieldAddr_mptr rfl fld34_1 rfl rfl) ?_
      refine s_yes rfl rfl rfl ?_
      refine s_rd _ rfl (by first | exact load_box_d rfl lay32 rfl rfl rfl | exact load_box rfl lay32 rfl rfl rfl) ?_
      refine s_yes rfl rfl rfl ?_
      refine s_rd _ rfl (by first | exact len_d rfl sel32 rfl (by first | exact List.length_map _ | rfl) | exact len_msl rfl sel32 rfl | exact len_nil rfl sel32 rfl) ?_
      refine s_yes rfl rfl rfl ?_
      refine s_rd _ rfl (fieldAddr_mptr rfl fld25_2 rfl rfl) ?_
      refine s_yes rfl rfl rfl ?_
      refine s_rd _ rfl (by first | exact load_box_d rfl lay23 rfl rfl rfl | exact load_box rfl lay23 rfl rfl rfl) ?_
      refine s_yes rfl rfl rfl ?_
      refine s_rd _ rfl (by first | exact len_d rfl sel23 rfl (by first | exact List.length_map _ | rfl) | exact len_msl rfl sel23 rfl | exact len_nil rfl sel23 rfl) ?_
      refine s_yes rfl rfl rfl ?_
      refine s_rd _ rfl (cmp_int rfl rfl rfl rfl) ?_
      refine s_rd _ rfl (by first | exact pick_Fd rfl rfl rfl | exact pick_F rfl rfl rfl) ?_
      refine tops_nil ?_
      refine twp_norm [2, 3, 27] (sub_mptr rfl (sub_mptr rfl (sub_d rfl .nil))) (blk_box rfl (blk_box rfl (blk_nil rfl))) ?_
      refine twp_cond _ rfl (fun c3 => ?_) (fun c3 => ?_)
      · have hx : ¬ m.counts.length = p.rungs.length := by simp at c3; omega
        have hno : p.fits m = false := by simp [Prg.fits, hx]
        refine twp_rseq ?_
        refine s_rd _ rfl (mv_d (.inr rfl) rfl) ?_
        refine tops_nil ?_
        refine twp_norm [4] (sub_d rfl .nil) (blk_box rfl (blk_box rfl (blk_nil rfl))) ?_
        refine twp_ret ?_
        refine way_thenRet ?_
        exact Ends.plainB _ rfl (by first | rw [hno] | rw [hyes])
      · have c3 : m.counts.length = p.rungs.length := by simp at c3; omega
        refine twp_skip ?_
        refine way_then ?_
        refine twp_norm [2, 3] (sub_mptr rfl (sub_mptr rfl .nil)) (blk_box rfl (blk_box rfl (blk_nil rfl))) ?_
        refine twp_seq ?_
        refine twp_rseq ?_
        refine s_rd _ rfl (fieldAddr_mptr rfl fld25_2 rfl rfl) ?_
        refine s_rd _ rfl (by first | exact load_box_d rfl lay23 rfl rfl rfl | exact load_box rfl lay23 rfl rfl rfl) ?_
        refine s_rd _ rfl (by first | exact len_d rfl sel23 rfl (by first | exact List.length_map _ | rfl) | exact len_msl rfl sel23 rfl | exact len_nil rfl sel23 rfl) ?_
        refine s_rd _ rfl (mv_d (.inl rfl) rfl) ?_
        refine tops_nil ?_
        refine twp_norm [3, 29, 30, 31] (by repeat (first | exact SubK.nil | apply sub_d rfl | apply sub_msl rfl | apply sub_mptr rfl | apply SubK.cons _ _ _ _ rfl)) (blk_box rfl (blk_box rfl (blk_nil rfl))) ?_
        refine twp_block ?_
        refine twp_whileK (fun i => ([(31, .d (.int .i64 ((i : Nat) : Int)))] : Fr)) (fun i => ([] : List (Nat × Blk))) (fun i => i ≤ p.rungs.length ∧ (allTo (fun x : Int × Rung => decide (0 ≤ x.1) && decide (x.1 ≤ x.2.preset)) (m.counts.zip p.rungs) i)) (fun i => p.rungs.length - i) [31] [3, 29, 30] [0, 1] 0 (by decide) (fun i hi => absurd hi (Nat.not_lt_zero i)) ⟨Nat.zero_le _, allTo_zero⟩ (by repeat (first | exact SubK.nil | apply sub_d rfl | apply sub_msl rfl | apply sub_mptr rfl | apply SubK.cons _ _ _ _ rfl)) rfl rfl (blk_box rfl (blk_box rfl (blk_nil rfl))) rfl ?_
        rintro i ⟨hok, hinv⟩
        refine twp_norm [31, 3, 29, 30] (by repeat (first | exact SubK.nil | apply sub_d rfl | apply sub_msl rfl | apply sub_mptr rfl | apply SubK.cons _ _ _ _ rfl)) (blk_box rfl (blk_box rfl (blk_nil rfl))) ?_
        refine twp_rseq ?_
        refine s_rd _ rfl (cmp_int rfl rfl rfl rfl) ?_
        refine tops_nil ?_
        refine twp_norm [3, 29, 30, 31, 32] (by repeat (first | exact SubK.nil | apply sub_d rfl | apply sub_msl rfl | apply sub_mptr rfl | apply SubK.cons _ _ _ _ rfl)) (blk_box rfl (blk_box rfl (blk_nil rfl))) ?_
        refine twp_seq ?_
        refine twp_cond _ rfl (fun hlt => ?_) (fun hlt => ?_)
        · have hlt : i < p.rungs.length := by simpa using hlt
          obtain ⟨c, hc⟩ : ∃ x, (m.counts)[i]? = some x := ⟨_, List.getElem?_eq_getElem (by first | exact hlt | omega | (simp; omega))⟩
          obtain ⟨r, hr⟩ : ∃ x, (p.rungs)[i]? = some x := ⟨_, List.getElem?_eq_getElem (by first | exact hlt | omega | (simp; omega))⟩
          refine twp_skip ?_
          refine way_then ?_
          refine twp_norm [3, 29, 30, 31] (by repeat (first | exact SubK.nil | apply sub_d rfl | apply sub_msl rfl | apply sub_mptr rfl | apply SubK.cons _ _ _ _ rfl)) (blk_box rfl (blk_box rfl (blk_nil rfl))) ?_
          refine twp_seq ?_
          refine twp_block ?_
          refine twp_rseq ?_
          refine s_rd _ rfl (mv_d (.inl rfl) rfl) ?_
          refine s_rd _ rfl (by first | exact index_msl0 rfl sel23 rfl rfl (by first | assumption | omega | (simp; omega)) | exact index_sl rfl sel23 rfl rfl (by first | exact ⟨by omega, by assumption⟩ | exact idx_map (by assumption) | exact idx_id (by assumption))) ?_
          refine s_rd _ rfl (by first | exact load_ptrW rfl lay50 rfl rfl rfl | exact load_flatW rfl lay50 rfl rfl (by first | rfl | assumption | (simp only [List.getElem?_map, Option.map_some, *]; done)) rfl rfl | exact load_boxA_d rfl lay50 rfl rfl (Nat.le_of_ble_eq_true rfl) rfl | exact load_boxA rfl lay50 rfl rfl (Nat.le_of_ble_eq_true rfl) rfl | exact load_ptrA rfl lay50 rfl (Nat.le_of_ble_eq_true rfl) rfl) ?_
          refine s_alloc rfl zero50 rfl rfl ?_
          refine s_eq 6 (.mptr 2 0 0 0) rfl rfl ?_
          refine s_rd _ rfl (mv_d (.inr rfl) rfl) ?_
          refine s_store_box lay50 rfl rfl rfl rfl rfl (Nat.le_of_ble_eq_true rfl) rfl ?_
          refine tops_nil ?_
          refine twp_norm [3, 5, 6, 29, 30, 31] (by repeat (first | exact SubK.nil | apply sub_d rfl | apply sub_msl rfl | apply sub_mptr rfl | apply SubK.cons _ _ _ _ rfl)) (blk_box rfl (blk_box rfl (blk_boxN rfl (by repeat (first | exact NormC.nil rfl | apply nc_d rfl | apply nc_msl rfl | apply nc_mptr rfl | apply nc_fnc rfl)) (blk_nil rfl)))) ?_
          refine twp_dseq follows  ?_
          refine d_rd [] _ rfl rfl (fieldAddr_mptr rfl fld34_1 rfl rfl) ?_
          first | refine d_rd [] _ rfl rfl (by first | exact load_box_d rfl lay32 rfl rfl rfl | exact load_box rfl lay32 rfl rfl rfl) ?_ | refine d_rd [0] _ rfl rfl (by first | exact load_box_d rfl lay32 rfl rfl rfl | exact load_box rfl lay32 rfl rfl rfl) ?_ | refine d_rd [1] _ rfl rfl (by first | exact load_box_d rfl lay32 rfl rfl rfl | exact load_box rfl lay32 rfl rfl rfl) ?_ | refine d_rd [2] _ rfl rfl (by first | exact load_box_d rfl lay32 rfl rfl rfl | exact load_box rfl lay32 rfl rfl rfl) ?_ | refine d_rd [3] _ rfl rfl (by first | exact load_box_d rfl lay32 rfl rfl rfl | exact load_box rfl lay32 rfl rfl rfl) ?_ | refine d_rd [0, 1] _ rfl rfl (by first | exact load_box_d rfl lay32 rfl rfl rfl | exact load_box rfl lay32 rfl rfl rfl) ?_
          refine d_rd [] _ rfl rfl (mv_d (.inl rfl) rfl) ?_
          refine d_rd [] _ rfl rfl (by first | exact index_msl0 rfl sel32 rfl rfl (by first | assumption | omega | (simp; omega)) | exact index_sl rfl sel32 rfl rfl (idx_map hc)) ?_
          first | refine d_rd [] _ rfl rfl (by first | exact load_ptr rfl lay3 rfl rfl | exact load_flat rfl lay3 rfl rfl (by first | rfl | assumption | (simp only [List.getElem?_map, Option.map_some, *]; done)) rfl | exact load_box_d rfl lay3 rfl rfl rfl | exact load_box rfl lay3 rfl rfl rfl) ?_ | refine d_rd [0] _ rfl rfl (by first | exact load_ptr rfl lay3 rfl rfl | exact load_flat rfl lay3 rfl rfl (by first | rfl | assumption | (simp only [List.getElem?_map, Option.map_some, *]; done)) rfl | exact load_box_d rfl lay3 rfl rfl rfl | exact load_box rfl lay3 rfl rfl rfl) ?_ | refine d_rd [1] _ rfl rfl (by first | exact load_ptr rfl lay3 rfl rfl | exact load_flat rfl lay3 rfl rfl (by first | rfl | assumption | (simp only [List.getElem?_map, Option.map_some, *]; done)) rfl | exact load_box_d rfl lay3 rfl rfl rfl | exact load_box rfl lay3 rfl rfl rfl) ?_ | refine d_rd [2] _ rfl rfl (by first | exact load_ptr rfl lay3 rfl rfl | exact load_flat rfl lay3 rfl rfl (by first | rfl | assumption | (simp only [List.getElem?_map, Option.map_some, *]; done)) rfl | exact load_box_d rfl lay3 rfl rfl rfl | exact load_box rfl lay3 rfl rfl rfl) ?_ | refine d_rd [3] _ rfl rfl (by first | exact load_ptr rfl lay3 rfl rfl | exact load_flat rfl lay3 rfl rfl (by first | rfl | assumption | (simp only [List.getElem?_map, Option.map_some, *]; done)) rfl | exact load_box_d rfl lay3 rfl rfl rfl | exact load_box rfl lay3 rfl rfl rfl) ?_ | refine d_rd [0, 1] _ rfl rfl (by first | exact load_ptr rfl lay3 rfl rfl | exact load_flat rfl lay3 rfl rfl (by first | rfl | assumption | (simp only [List.getElem?_map, Option.map_some, *]; done)) rfl | exact load_box_d rfl lay3 rfl rfl rfl | exact load_box rfl lay3 rfl rfl rfl) ?_
          refine d_rd [] _ rfl rfl (cmp_int rfl rfl rfl rfl) ?_
          refine d_rd [] _ rfl rfl (mv_d (.inl rfl) rfl) ?_
          refine d_split 42 rfl (fun hg => ?_) (fun hg => ?_)
          · have hs42 := hg
            have hno : p.fits m = false := by unfold Prg.fits; rw [allTo_no (zip_get hc hr) (by grind)]; simp
            refine d_skip rfl (on_no rfl rfl rfl hs42) ?_
            refine d_skip rfl (on_no rfl rfl rfl hs42) ?_
            refine d_skip rfl (on_no rfl rfl rfl hs42) ?_
            refine d_skip rfl (on_no rfl rfl rfl hs42) ?_
            refine d_skip rfl (on_no rfl rfl rfl hs42) ?_
            refine d_skip rfl (on_no rfl rfl rfl hs42) ?_
            refine d_skip rfl (on_no rfl rfl rfl hs42) ?_
            refine d_skip rfl (on_no rfl rfl rfl hs42) ?_
            refine d_rd [] _ rfl rfl (pickh_T rfl rfl hs42 rfl) ?_
            refine d_tail ?_ (by kernel_rfl)
            refine tops_nil ?_
            refine twp_norm [3, 29, 30, 31, 51] (by repeat (first | exact SubK.nil | apply sub_d rfl | apply sub_msl rfl | apply sub_mptr rfl | apply SubK.cons _ _ _ _ rfl)) (blk_box rfl (blk_box rfl (blk_box rfl (blk_nil rfl)))) ?_
            refine twp_cond true rfl (fun _ => ?_) (fun h => by cases h)
            refine twp_rseq ?_
            refine s_rd _ rfl (mv_d (.inr rfl) rfl) ?_
            refine tops_nil ?_
            refine twp_norm [4] (sub_d rfl .nil) (blk_box rfl (blk_box rfl (blk_box rfl (blk_nil rfl)))) ?_
            refine twp_ret ?_
            refine way_blockRet ?_
            refine way_thenRet ?_
            refine way_thenRet ?_
            refine way_blockRet ?_
            refine way_thenRet ?_
            exact Ends.plainB _ rfl (by first | rw [hno] | rw [hyes])
          · have hs42 := hg
            refine d_rd [] _ rfl (on_yes rfl rfl rfl hs42) (fieldAddr_mptr rfl fld34_1 rfl rfl) ?_
            first | refine d_rd [] _ rfl (on_yes rfl rfl rfl hs42) (by first | exact load_box_d rfl lay32 rfl rfl rfl | exact load_box rfl lay32 rfl rfl rfl) ?_ | refine d_rd [0] _ rfl (on_yes rfl rfl rfl hs42) (by first | exact load_box_d rfl lay32 rfl rfl rfl | exact load_box rfl lay32 rfl rfl rfl) ?_ | refine d_rd [1] _ rfl (on_yes rfl rfl rfl hs42) (by first | exact load_box_d rfl lay32 rfl rfl rfl | exact load_box rfl lay32 rfl rfl rfl) ?_ | refine d_rd [2] _ rfl (on_yes rfl rfl rfl hs42) (by first | exact load_box_d rfl lay32 rfl rfl rfl | exact load_box rfl lay32 rfl rfl rfl) ?_ | refine d_rd [3] _ rfl (on_yes rfl rfl rfl hs42) (by first | exact load_box_d rfl lay32 rfl rfl rfl | exact load_box rfl lay32 rfl rfl rfl) ?_ | refine d_rd [0, 1] _ rfl (on_yes rfl rfl rfl hs42) (by first | exact load_box_d rfl lay32 rfl rfl rfl | exact load_box rfl lay32 rfl rfl rfl) ?_
            refine d_rd [] _ rfl (on_yes rfl rfl rfl hs42) (mv_d (.inl rfl) rfl) ?_
            refine d_rd [] _ rfl (on_yes rfl rfl rfl hs42) (by first | exact index_msl0 rfl sel32 rfl rfl (by first | assumption | omega | (simp; omega)) | exact index_sl rfl sel32 rfl rfl (idx_map hc)) ?_
            first | refine d_rd [] _ rfl (on_yes rfl rfl rfl hs42) (by first | exact load_ptr rfl lay3 rfl rfl | exact load_flat rfl lay3 rfl rfl (by first | rfl | assumption | (simp only [List.getElem?_map, Option.map_some, *]; done)) rfl | exact load_box_d rfl lay3 rfl rfl rfl | exact load_box rfl lay3 rfl rfl rfl) ?_ | refine d_rd [0] _ rfl (on_yes rfl rfl rfl hs42) (by first | exact load_ptr rfl lay3 rfl rfl | exact load_flat rfl lay3 rfl rfl (by first | rfl | assumption | (simp only [List.getElem?_map, Option.map_some, *]; done)) rfl | exact load_box_d rfl lay3 rfl rfl rfl | exact load_box rfl lay3 rfl rfl rfl) ?_ | refine d_rd [1] _ rfl (on_yes rfl rfl rfl hs42) (by first | exact load_ptr rfl lay3 rfl rfl | exact load_flat rfl lay3 rfl rfl (by first | rfl | assumption | (simp only [List.getElem?_map, Option.map_some, *]; done)) rfl | exact load_box_d rfl lay3 rfl rfl rfl | exact load_box rfl lay3 rfl rfl rfl) ?_ | refine d_rd [2] _ rfl (on_yes rfl rfl rfl hs42) (by first | exact load_ptr rfl lay3 rfl rfl | exact load_flat rfl lay3 rfl rfl (by first | rfl | assumption | (simp only [List.getElem?_map, Option.map_some, *]; done)) rfl | exact load_box_d rfl lay3 rfl rfl rfl | exact load_box rfl lay3 rfl rfl rfl) ?_ | refine d_rd [3] _ rfl (on_yes rfl rfl rfl hs42) (by first | exact load_ptr rfl lay3 rfl rfl | exact load_flat rfl lay3 rfl rfl (by first | rfl | assumption | (simp only [List.getElem?_map, Option.map_some, *]; done)) rfl | exact load_box_d rfl lay3 rfl rfl rfl | exact load_box rfl lay3 rfl rfl rfl) ?_ | refine d_rd [0, 1] _ rfl (on_yes rfl rfl rfl hs42) (by first | exact load_ptr rfl lay3 rfl rfl | exact load_flat rfl lay3 rfl rfl (by first | rfl | assumption | (simp only [List.getElem?_map, Option.map_some, *]; done)) rfl | exact load_box_d rfl lay3 rfl rfl rfl | exact load_box rfl lay3 rfl rfl rfl) ?_
            refine d_rd [] _ rfl (on_yes rfl rfl rfl hs42) (fieldAddr_mptr rfl fld50_2 rfl rfl) ?_
            first | refine d_rd [] _ rfl (on_yes rfl rfl rfl hs42) (by first | exact load_box_d rfl lay3 rfl rfl rfl | exact load_box rfl lay3 rfl rfl rfl) ?_ | refine d_rd [0] _ rfl (on_yes rfl rfl rfl hs42) (by first | exact load_box_d rfl lay3 rfl rfl rfl | exact load_box rfl lay3 rfl rfl rfl) ?_ | refine d_rd [1] _ rfl (on_yes rfl rfl rfl hs42) (by first | exact load_box_d rfl lay3 rfl rfl rfl | exact load_box rfl lay3 rfl rfl rfl) ?_ | refine d_rd [2] _ rfl (on_yes rfl rfl rfl hs42) (by first | exact load_box_d rfl lay3 rfl rfl rfl | exact load_box rfl lay3 rfl rfl rfl) ?_ | refine d_rd [3] _ rfl (on_yes rfl rfl rfl hs42) (by first | exact load_box_d rfl lay3 rfl rfl rfl | exact load_box rfl lay3 rfl rfl rfl) ?_ | refine d_rd [0, 1] _ rfl (on_yes rfl rfl rfl hs42) (by first | exact load_box_d rfl lay3 rfl rfl rfl | exact load_box rfl lay3 rfl rfl rfl) ?_
            refine d_rd [] _ rfl (on_yes rfl rfl rfl hs42) (cmp_int rfl rfl rfl rfl) ?_
            refine d_rd [] _ rfl rfl (pickh_F rfl rfl hs42 rfl) ?_
            refine d_tail ?_ (by kernel_rfl)
            refine tops_nil ?_
            refine twp_norm [3, 29, 30, 31, 51] (by repeat (first | exact SubK.nil | apply sub_d rfl | apply sub_msl rfl | apply sub_mptr rfl | apply SubK.cons _ _ _ _ rfl)) (blk_box rfl (blk_box rfl (blk_box rfl (blk_nil rfl)))) ?_
            refine twp_cond _ rfl (fun hb => ?_) (fun hb => ?_)
            · have hno : p.fits m = false := by unfold Prg.fits; rw [allTo_no (zip_get hc hr) (by grind)]; simp
              refine twp_rseq ?_
              refine s_rd _ rfl (mv_d (.inr rfl) rfl) ?_
              refine tops_nil ?_
              refine twp_norm [4] (sub_d rfl .nil) (blk_box rfl (blk_box rfl (blk_box rfl (blk_nil rfl)))) ?_
              refine twp_ret ?_
              refine way_blockRet ?_
              refine way_thenRet ?_
              refine way_thenRet ?_
              refine way_blockRet ?_
              refine way_thenRet ?_
              exact Ends.plainB _ rfl (by first | rw [hno] | rw [hyes])
            · refine twp_skip ?_
              refine way_block ?_
              refine way_then ?_
              refine twp_norm [3, 29, 30, 31] (by repeat (first | exact SubK.nil | apply sub_d rfl | apply sub_msl rfl | apply sub_mptr rfl | apply SubK.cons _ _ _ _ rfl)) (blk_box rfl (blk_box rfl (blk_box rfl (blk_nil rfl)))) ?_
              refine twp_region ?_
              refine s_rd _ rfl (arith_ok rfl rfl rfl rfl (by omega)) ?_
              refine s_rd _ rfl (mv_d (.inl rfl) rfl) ?_
              refine tops_nil ?_
              refine way_then ?_
              exact ⟨(i + 1), [0, 1], by decide, (fun i hi => absurd hi (Nat.not_lt_zero i)), ⟨by omega, allTo_succ hinv (zip_get hc hr) (by grind)⟩, (by omega), rfl⟩
        · have hge : ¬ i < p.rungs.length := by simpa using hlt
          have hi : i = p.rungs.length := by omega
          have hall := allTo_end hinv (by simp; omega)
          have hyes : p.fits m = true := by unfold Prg.fits; rw [hall]; simp [c1, c2, c3]
          refine twp_exit ?_
          refine way_thenExit ?_
          refine way_thenExit ?_
          refine way_here ?_
          refine way_then ?_
          refine twp_norm [] .nil (blk_box rfl (blk_box rfl (blk_nil rfl))) ?_
          refine twp_rseq ?_
          refine s_rd _ rfl (mv_d (.inr rfl) rfl) ?_
          refine tops_nil ?_
          refine twp_norm [4] (sub_d rfl .nil) (blk_box rfl (blk_box rfl (blk_nil rfl))) ?_
          refine twp_ret ?_
          exact Ends.plainB _ rfl (by first | rw [hno] | rw [hyes])

theorem fitsP_n (p : Prg) (m : Mch) (hp : p.Wf) (hm : m.Wf)  : RetN Try.prog 19 [p.enc, m.enc] (.bool (p.fits m)) := .unit (fitsP_step p m hp hm) rfl

theorem callB20 : callB Try.prog 20 = true := by kernel_rfl

theorem fitsR_step (p : Prg) (m : Mch) (hp : p.Wf) (hm : m.Wf) (hs : ∀ r ∈ p.rungs, r.expr.size ≤ 1000000) : Ret Try.prog 20 [] (fun _ => false) ([p.enc, m.enc].map .d) (.d (.bool (p.fits m))) [] := by
  have hrl := hp.rungs
  have hcl := hm.counts
  refine ret_body callB20 Try.func20 rfl Try.ntmps20 rfl rfl (fun wX gX => ?_)
  refine twp_norm [0, 1] (sub_d rfl (sub_d rfl .nil)) (blk_nil rfl) ?_
  refine twp_rseq ?_
  refine s_boxA rfl rfl rfl ?_
  refine s_eq 2 (.mptr 0 0 0 0) rfl rfl ?_
  refine s_boxA rfl rfl rfl ?_
  refine s_eq 3 (.mptr 1 0 0 0) rfl rfl ?_
  refine s_rd _ rfl (mv_d (.inr rfl) rfl) ?_
  refine tops_nil ?_
  refine twp_norm [2, 3] (sub_mptr rfl (sub_mptr rfl .nil)) (blk_boxN rfl (by repeat (first | exact NormC.nil rfl | apply nc_d rfl | apply nc_msl rfl | apply nc_mptr rfl | apply nc_fnc rfl)) (blk_boxN rfl (by repeat (first | exact NormC.nil rfl | apply nc_d rfl | apply nc_msl rfl | apply nc_mptr rfl | apply nc_fnc rfl)) (blk_nil rfl))) ?_
  refine twp_seq ?_
  refine twp_rseq ?_
  refine s_rd _ rfl (by first | exact load_boxA_d rfl lay25 rfl rfl (Nat.le_of_ble_eq_true rfl) rfl | exact load_boxA rfl lay25 rfl rfl (Nat.le_of_ble_eq_true rfl) rfl) ?_
  refine s_rd _ rfl (rd_callRD rfl rfl rfl ((checkR_n p hp hs).retD)) ?_
  refine s_rd _ rfl (cmp_int rfl rfl rfl rfl) ?_
  refine s_rd _ rfl (mv_d (.inl rfl) rfl) ?_
  refine s_split 9 rfl (fun c1 => ?_) (fun c1 => ?_)
  · have hno : p.fits m = false := by simp at c1; simp [Prg.fits, c1]
    refine s_no rfl rfl rfl rfl ?_
    refine s_no rfl rfl rfl rfl ?_
    refine s_no rfl rfl rfl rfl ?_
    refine s_no rfl rfl rfl rfl ?_
    refine s_no rfl rfl rfl rfl ?_
    refine s_no rfl rfl rfl rfl ?_
    refine s_no rfl rfl rfl rfl ?_
    refine s_rd _ rfl (by first | exact pick_Td rfl rfl rfl | exact pick_T rfl rfl rfl) ?_
    refine s_rd _ rfl (mv_d (.inl rfl) rfl) ?_
    refine s_no rfl rfl rfl rfl ?_
    refine s_no rfl rfl rfl rfl ?_
    refine s_no rfl rfl rfl rfl ?_
    refine s_no rfl rfl rfl rfl ?_
    refine s_no rfl rfl rfl rfl ?_
    refine s_no rfl rfl rfl rfl ?_
    refine s_no rfl rfl rfl rfl ?_
    refine s_rd _ rfl (by first | exact pick_Td rfl rfl rfl | exact pick_T rfl rfl rfl) ?_
    refine tops_nil ?_
    refine twp_norm [2, 3, 26] (sub_mptr rfl (sub_mptr rfl (sub_d rfl .nil))) (blk_box rfl (blk_box rfl (blk_nil rfl))) ?_
    refine twp_cond true rfl (fun _ => ?_) (fun h => by cases h)
    refine twp_rseq ?_
    refine s_rd _ rfl (mv_d (.inr rfl) rfl) ?_
    refine tops_nil ?_
    refine twp_norm [4] (sub_d rfl .nil) (blk_box rfl (blk_box rfl (blk_nil rfl))) ?_
    refine twp_ret ?_
    refine way_thenRet ?_
    exact Ends.plainB _ rfl (by first | rw [hno] | rw [hyes])
  · have c1 : p.check = 0 := by simpa using c1
    refine s_yes rfl rfl rfl ?_
    refine s_rd _ rfl (fieldAddr_mptr rfl fld34_0 rfl rfl) ?_
    refine s_yes rfl rfl rfl ?_
    refine s_rd _ rfl (by first | exact load_box_d rfl lay31 rfl rfl rfl | exact load_box rfl lay31 rfl rfl rfl) ?_
    refine s_yes rfl rfl rfl ?_
    refine s_rd _ rfl (by first | exact len_d rfl sel31 rfl (by first | exact List.length_map _ | rfl) | exact len_msl rfl sel31 rfl | exact len_nil rfl sel31 rfl) ?_
    refine s_yes rfl rfl rfl ?_
    refine s_rd _ rfl (fieldAddr_mptr rfl fld25_0 rfl rfl) ?_
    refine s_yes rfl rfl rfl ?_
    refine s_rd _ rfl (by first | exact load_box_d rfl lay22 rfl rfl rfl | exact load_box rfl lay22 rfl rfl rfl) ?_
    refine s_yes rfl rfl rfl ?_
    refine s_rd _ rfl (by first | exact len_d rfl sel22 rfl (by first | exact List.length_map _ | rfl) | exact len_msl rfl sel22 rfl | exact len_nil rfl sel22 rfl) ?_
    refine s_yes rfl rfl rfl ?_
    refine s_rd _ rfl (cmp_int rfl rfl rfl rfl) ?_
    refine s_rd _ rfl (by first | exact pick_Fd rfl rfl rfl | exact pick_F rfl rfl rfl) ?_
    refine s_rd _ rfl (mv_d (.inl rfl) rfl) ?_
    refine s_split 18 rfl (fun c2 => ?_) (fun c2 => ?_)
    · have hx : ¬ m.vars.length = p.names.length := by simp at c2; omega
      have hno : p.fits m = false := by simp [Prg.fits, hx]
      refine s_no rfl rfl rfl rfl ?_
      refine s_no rfl rfl rfl rfl ?_
      refine s_no rfl rfl rfl rfl ?_
      refine s_no rfl rfl rfl rfl ?_
      refine s_no rfl rfl rfl rfl ?_
      refine s_no rfl rfl rfl rfl ?_
      refine s_no rfl rfl rfl rfl ?_
      refine s_rd _ rfl (by first | exact pick_Td rfl rfl rfl | exact pick_T rfl rfl rfl) ?_
      refine tops_nil ?_
      refine twp_norm [2, 3, 26] (sub_mptr rfl (sub_mptr rfl (sub_d rfl .nil))) (blk_box rfl (blk_box rfl (blk_nil rfl))) ?_
      refine twp_cond true rfl (fun _ => ?_) (fun h => by cases h)
      refine twp_rseq ?_
      refine s_rd _ rfl (mv_d (.inr rfl) rfl) ?_
      refine tops_nil ?_
      refine twp_norm [4] (sub_d rfl .nil) (blk_box rfl (blk_box rfl (blk_nil rfl))) ?_
      refine twp_ret ?_
      refine way_thenRet ?_
      exact Ends.plainB _ rfl (by first | rw [hno] | rw [hyes])
    · have c2 : m.vars.length = p.names.length := by simp at c2; omega
      refine s_yes rfl rfl rfl ?_
      refine s_rd _ rfl (fieldAddr_mptr rfl fld34_1 rfl rfl) ?_
      refine s_yes rfl rfl rfl ?_
      refine s_rd _ rfl (by first | exact load_box_d rfl lay32 rfl rfl rfl | exact load_box rfl lay32 rfl rfl rfl) ?_
      refine s_yes rfl rfl rfl ?_
      refine s_rd _ rfl (by first | exact len_d rfl sel32 rfl (by first | exact List.length_map _ | rfl) | exact len_msl rfl sel32 rfl | exact len_nil rfl sel32 rfl) ?_
      refine s_yes rfl rfl rfl ?_
      refine s_rd _ rfl (fieldAddr_mptr rfl fld25_2 rfl rfl) ?_
      refine s_yes rfl rfl rfl ?_
      refine s_rd _ rfl (by first | exact load_box_d rfl lay23 rfl rfl rfl | exact load_box rfl lay23 rfl rfl rfl) ?_
      refine s_yes rfl rfl rfl ?_
      refine s_rd _ rfl (by first | exact len_d rfl sel23 rfl (by first | exact List.length_map _ | rfl) | exact len_msl rfl sel23 rfl | exact len_nil rfl sel23 rfl) ?_
      refine s_yes rfl rfl rfl ?_
      refine s_rd _ rfl (cmp_int rfl rfl rfl rfl) ?_
      refine s_rd _ rfl (by first | exact pick_Fd rfl rfl rfl | exact pick_F rfl rfl rfl) ?_
      refine tops_nil ?_
      refine twp_norm [2, 3, 26] (sub_mptr rfl (sub_mptr rfl (sub_d rfl .nil))) (blk_box rfl (blk_box rfl (blk_nil rfl))) ?_
      refine twp_cond _ rfl (fun c3 => ?_) (fun c3 => ?_)
      · have hx : ¬ m.counts.length = p.rungs.length := by simp at c3; omega
        have hno : p.fits m = false := by simp [Prg.fits, hx]
        refine twp_rseq ?_
        refine s_rd _ rfl (mv_d (.inr rfl) rfl) ?_
        refine tops_nil ?_
        refine twp_norm [4] (sub_d rfl .nil) (blk_box rfl (blk_box rfl (blk_nil rfl))) ?_
        refine twp_ret ?_
        refine way_thenRet ?_
        exact Ends.plainB _ rfl (by first | rw [hno] | rw [hyes])
      · have c3 : m.counts.length = p.rungs.length := by simp at c3; omega
        refine twp_skip ?_
        refine way_then ?_
        refine twp_norm [2, 3] (sub_mptr rfl (sub_mptr rfl .nil)) (blk_box rfl (blk_box rfl (blk_nil rfl))) ?_
        refine twp_seq ?_
        refine twp_rseq ?_
        refine s_rd _ rfl (mv_d (.inr rfl) rfl) ?_
        refine tops_nil ?_
        refine twp_norm [2, 3, 5] (sub_mptr rfl (sub_mptr rfl (sub_d rfl .nil))) (blk_box rfl (blk_box rfl (blk_nil rfl))) ?_
        refine twp_block ?_
        refine twp_whileK (fun i => ([(5, .d (.int .i64 ((i : Nat) : Int)))] : Fr)) (fun i => ([] : List (Nat × Blk))) (fun i => i ≤ m.counts.length ∧ (allTo (fun x : Int × Rung => decide (0 ≤ x.1) && decide (x.1 ≤ x.2.preset)) (m.counts.zip p.rungs) i)) (fun i => m.counts.length - i) [5] [2, 3] [0, 1] 0 (by decide) (fun i hi => absurd hi (Nat.not_lt_zero i)) ⟨Nat.zero_le _, allTo_zero⟩ (sub_mptr rfl (sub_mptr rfl .nil)) rfl rfl (blk_box rfl (blk_box rfl (blk_nil rfl))) rfl ?_
        rintro i ⟨hok, hinv⟩
        refine twp_norm [5, 2, 3] (sub_d rfl (sub_mptr rfl (sub_mptr rfl .nil))) (blk_box rfl (blk_box rfl (blk_nil rfl))) ?_
        refine twp_seq ?_
        refine twp_rseq ?_
        refine s_rd _ rfl (mv_d (.inl rfl) rfl) ?_
        refine s_rd _ rfl (fieldAddr_mptr rfl fld34_1 rfl rfl) ?_
        refine s_rd _ rfl (by first | exact load_box_d rfl lay32 rfl rfl rfl | exact load_box rfl lay32 rfl rfl rfl) ?_
        refine s_rd _ rfl (by first | exact len_d rfl sel32 rfl (by first | exact List.length_map _ | rfl) | exact len_msl rfl sel32 rfl | exact len_nil rfl sel32 rfl) ?_
        refine s_rd _ rfl (cmp_int rfl rfl rfl rfl) ?_
        refine tops_nil ?_
        refine twp_norm [2, 3, 5, 31] (sub_mptr rfl (sub_mptr rfl (sub_d rfl (sub_d rfl .nil)))) (blk_box rfl (blk_box rfl (blk_nil rfl))) ?_
        refine twp_cond _ rfl (fun hlt => ?_) (fun hlt => ?_)
        · have hlt : i < m.counts.length := by simpa using hlt
          obtain ⟨c, hc⟩ : ∃ x, (m.counts)[i]? = some x := ⟨_, List.getElem?_eq_getElem (by first | exact hlt | omega | (simp; omega))⟩
          obtain ⟨r, hr⟩ : ∃ x, (p.rungs)[i]? = some x := ⟨_, List.getElem?_eq_getElem (by first | exact hlt | omega | (simp; omega))⟩
          refine twp_skip ?_
          refine way_then ?_
          refine twp_norm [2, 3, 5] (sub_mptr rfl (sub_mptr rfl (sub_d rfl .nil))) (blk_box rfl (blk_box rfl (blk_nil rfl))) ?_
          refine twp_seq ?_
          refine twp_block ?_
          refine twp_dseq follows  ?_
          refine d_rd [] _ rfl rfl (fieldAddr_mptr rfl fld34_1 rfl rfl) ?_
          first | refine d_rd [] _ rfl rfl (by first | exact load_box_d rfl lay32 rfl rfl rfl | exact load_box rfl lay32 rfl rfl rfl) ?_ | refine d_rd [0] _ rfl rfl (by first | exact load_box_d rfl lay32 rfl rfl rfl | exact load_box rfl lay32 rfl rfl rfl) ?_ | refine d_rd [1] _ rfl rfl (by first | exact load_box_d rfl lay32 rfl rfl rfl | exact load_box rfl lay32 rfl rfl rfl) ?_ | refine d_rd [2] _ rfl rfl (by first | exact load_box_d rfl lay32 rfl rfl rfl | exact load_box rfl lay32 rfl rfl rfl) ?_ | refine d_rd [3] _ rfl rfl (by first | exact load_box_d rfl lay32 rfl rfl rfl | exact load_box rfl lay32 rfl rfl rfl) ?_ | refine d_rd [0, 1] _ rfl rfl (by first | exact load_box_d rfl lay32 rfl rfl rfl | exact load_box rfl lay32 rfl rfl rfl) ?_
          refine d_rd [] _ rfl rfl (mv_d (.inl rfl) rfl) ?_
          refine d_rd [] _ rfl rfl (by first | exact index_msl0 rfl sel32 rfl rfl (by first | assumption | omega | (simp; omega)) | exact index_sl rfl sel32 rfl rfl (idx_map hc)) ?_
          first | refine d_rd [] _ rfl rfl (by first | exact load_ptr rfl lay3 rfl rfl | exact load_flat rfl lay3 rfl rfl (by first | rfl | assumption | (simp only [List.getElem?_map, Option.map_some, *]; done)) rfl | exact load_box_d rfl lay3 rfl rfl rfl | exact load_box rfl lay3 rfl rfl rfl) ?_ | refine d_rd [0] _ rfl rfl (by first | exact load_ptr rfl lay3 rfl rfl | exact load_flat rfl lay3 rfl rfl (by first | rfl | assumption | (simp only [List.getElem?_map, Option.map_some, *]; done)) rfl | exact load_box_d rfl lay3 rfl rfl rfl | exact load_box rfl lay3 rfl rfl rfl) ?_ | refine d_rd [1] _ rfl rfl (by first | exact load_ptr rfl lay3 rfl rfl | exact load_flat rfl lay3 rfl rfl (by first | rfl | assumption | (simp only [List.getElem?_map, Option.map_some, *]; done)) rfl | exact load_box_d rfl lay3 rfl rfl rfl | exact load_box rfl lay3 rfl rfl rfl) ?_ | refine d_rd [2] _ rfl rfl (by first | exact load_ptr rfl lay3 rfl rfl | exact load_flat rfl lay3 rfl rfl (by first | rfl | assumption | (simp only [List.getElem?_map, Option.map_some, *]; done)) rfl | exact load_box_d rfl lay3 rfl rfl rfl | exact load_box rfl lay3 rfl rfl rfl) ?_ | refine d_rd [3] _ rfl rfl (by first | exact load_ptr rfl lay3 rfl rfl | exact load_flat rfl lay3 rfl rfl (by first | rfl | assumption | (simp only [List.getElem?_map, Option.map_some, *]; done)) rfl | exact load_box_d rfl lay3 rfl rfl rfl | exact load_box rfl lay3 rfl rfl rfl) ?_ | refine d_rd [0, 1] _ rfl rfl (by first | exact load_ptr rfl lay3 rfl rfl | exact load_flat rfl lay3 rfl rfl (by first | rfl | assumption | (simp only [List.getElem?_map, Option.map_some, *]; done)) rfl | exact load_box_d rfl lay3 rfl rfl rfl | exact load_box rfl lay3 rfl rfl rfl) ?_
          refine d_rd [] _ rfl rfl (cmp_int rfl rfl rfl rfl) ?_
          refine d_rd [] _ rfl rfl (mv_d (.inl rfl) rfl) ?_
          refine d_split 40 rfl (fun hg => ?_) (fun hg => ?_)
          · have hs40 := hg
            have hno : p.fits m = false := by unfold Prg.fits; rw [allTo_no (zip_get hc hr) (by grind)]; simp
            refine d_skip rfl (on_no rfl rfl rfl hs40) ?_
            refine d_skip rfl (on_no rfl rfl rfl hs40) ?_
            refine d_skip rfl (on_no rfl rfl rfl hs40) ?_
            refine d_skip rfl (on_no rfl rfl rfl hs40) ?_
            refine d_skip rfl (on_no rfl rfl rfl hs40) ?_
            refine d_skip rfl (on_no rfl rfl rfl hs40) ?_
            refine d_skip rfl (on_no rfl rfl rfl hs40) ?_
            refine d_skip rfl (on_no rfl rfl rfl hs40) ?_
            refine d_skip rfl (on_no rfl rfl rfl hs40) ?_
            refine d_skip rfl (on_no rfl rfl rfl hs40) ?_
            refine d_skip rfl (on_no rfl rfl rfl hs40) ?_
            refine d_skip rfl (on_no rfl rfl rfl hs40) ?_
            refine d_rd [] _ rfl rfl (pickh_T rfl rfl hs40 rfl) ?_
            refine d_tail ?_ (by kernel_rfl)
            refine tops_nil ?_
            refine twp_norm [2, 3, 5, 53] (sub_mptr rfl (sub_mptr rfl (sub_d rfl (sub_d rfl .nil)))) (blk_box rfl (blk_box rfl (blk_nil rfl))) ?_
            refine twp_cond true rfl (fun _ => ?_) (fun h => by cases h)
            refine twp_rseq ?_
            refine s_rd _ rfl (mv_d (.inr rfl) rfl) ?_
            refine tops_nil ?_
            refine twp_norm [4] (sub_d rfl .nil) (blk_box rfl (blk_box rfl (blk_nil rfl))) ?_
            refine twp_ret ?_
            refine way_blockRet ?_
            refine way_thenRet ?_
            refine way_thenRet ?_
            refine way_blockRet ?_
            refine way_thenRet ?_
            exact Ends.plainB _ rfl (by first | rw [hno] | rw [hyes])
          · have hs40 := hg
            refine d_rd [] _ rfl (on_yes rfl rfl rfl hs40) (fieldAddr_mptr rfl fld34_1 rfl rfl) ?_
            first | refine d_rd [] _ rfl (on_yes rfl rfl rfl hs40) (by first | exact load_box_d rfl lay32 rfl rfl rfl | exact load_box rfl lay32 rfl rfl rfl) ?_ | refine d_rd [0] _ rfl (on_yes rfl rfl rfl hs40) (by first | exact load_box_d rfl lay32 rfl rfl rfl | exact load_box rfl lay32 rfl rfl rfl) ?_ | refine d_rd [1] _ rfl (on_yes rfl rfl rfl hs40) (by first | exact load_box_d rfl lay32 rfl rfl rfl | exact load_box rfl lay32 rfl rfl rfl) ?_ | refine d_rd [2] _ rfl (on_yes rfl rfl rfl hs40) (by first | exact load_box_d rfl lay32 rfl rfl rfl | exact load_box rfl lay32 rfl rfl rfl) ?_ | refine d_rd [3] _ rfl (on_yes rfl rfl rfl hs40) (by first | exact load_box_d rfl lay32 rfl rfl rfl | exact load_box rfl lay32 rfl rfl rfl) ?_ | refine d_rd [0, 1] _ rfl (on_yes rfl rfl rfl hs40) (by first | exact load_box_d rfl lay32 rfl rfl rfl | exact load_box rfl lay32 rfl rfl rfl) ?_
            refine d_rd [] _ rfl (on_yes rfl rfl rfl hs40) (mv_d (.inl rfl) rfl) ?_
            refine d_rd [] _ rfl (on_yes rfl rfl rfl hs40) (by first | exact index_msl0 rfl sel32 rfl rfl (by first | assumption | omega | (simp; omega)) | exact index_sl rfl sel32 rfl rfl (idx_map hc)) ?_
            first | refine d_rd [] _ rfl (on_yes rfl rfl rfl hs40) (by first | exact load_ptr rfl lay3 rfl rfl | exact load_flat rfl lay3 rfl rfl (by first | rfl | assumption | (simp only [List.getElem?_map, Option.map_some, *]; done)) rfl | exact load_box_d rfl lay3 rfl rfl rfl | exact load_box rfl lay3 rfl rfl rfl) ?_ | refine d_rd [0] _ rfl (on_yes rfl rfl rfl hs40) (by first | exact load_ptr rfl lay3 rfl rfl | exact load_flat rfl lay3 rfl rfl (by first | rfl | assumption | (simp only [List.getElem?_map, Option.map_some, *]; done)) rfl | exact load_box_d rfl lay3 rfl rfl rfl | exact load_box rfl lay3 rfl rfl rfl) ?_ | refine d_rd [1] _ rfl (on_yes rfl rfl rfl hs40) (by first | exact load_ptr rfl lay3 rfl rfl | exact load_flat rfl lay3 rfl rfl (by first | rfl | assumption | (simp only [List.getElem?_map, Option.map_some, *]; done)) rfl | exact load_box_d rfl lay3 rfl rfl rfl | exact load_box rfl lay3 rfl rfl rfl) ?_ | refine d_rd [2] _ rfl (on_yes rfl rfl rfl hs40) (by first | exact load_ptr rfl lay3 rfl rfl | exact load_flat rfl lay3 rfl rfl (by first | rfl | assumption | (simp only [List.getElem?_map, Option.map_some, *]; done)) rfl | exact load_box_d rfl lay3 rfl rfl rfl | exact load_box rfl lay3 rfl rfl rfl) ?_ | refine d_rd [3] _ rfl (on_yes rfl rfl rfl hs40) (by first | exact load_ptr rfl lay3 rfl rfl | exact load_flat rfl lay3 rfl rfl (by first | rfl | assumption | (simp only [List.getElem?_map, Option.map_some, *]; done)) rfl | exact load_box_d rfl lay3 rfl rfl rfl | exact load_box rfl lay3 rfl rfl rfl) ?_ | refine d_rd [0, 1] _ rfl (on_yes rfl rfl rfl hs40) (by first | exact load_ptr rfl lay3 rfl rfl | exact load_flat rfl lay3 rfl rfl (by first | rfl | assumption | (simp only [List.getElem?_map, Option.map_some, *]; done)) rfl | exact load_box_d rfl lay3 rfl rfl rfl | exact load_box rfl lay3 rfl rfl rfl) ?_
            refine d_rd [] _ rfl (on_yes rfl rfl rfl hs40) (fieldAddr_mptr rfl fld25_2 rfl rfl) ?_
            first | refine d_rd [] _ rfl (on_yes rfl rfl rfl hs40) (by first | exact load_box_d rfl lay23 rfl rfl rfl | exact load_box rfl lay23 rfl rfl rfl) ?_ | refine d_rd [0] _ rfl (on_yes rfl rfl rfl hs40) (by first | exact load_box_d rfl lay23 rfl rfl rfl | exact load_box rfl lay23 rfl rfl rfl) ?_ | refine d_rd [1] _ rfl (on_yes rfl rfl rfl hs40) (by first | exact load_box_d rfl lay23 rfl rfl rfl | exact load_box rfl lay23 rfl rfl rfl) ?_ | refine d_rd [2] _ rfl (on_yes rfl rfl rfl hs40) (by first | exact load_box_d rfl lay23 rfl rfl rfl | exact load_box rfl lay23 rfl rfl rfl) ?_ | refine d_rd [3] _ rfl (on_yes rfl rfl rfl hs40) (by first | exact load_box_d rfl lay23 rfl rfl rfl | exact load_box rfl lay23 rfl rfl rfl) ?_ | refine d_rd [0, 1] _ rfl (on_yes rfl rfl rfl hs40) (by first | exact load_box_d rfl lay23 rfl rfl rfl | exact load_box rfl lay23 rfl rfl rfl) ?_
            refine d_rd [] _ rfl (on_yes rfl rfl rfl hs40) (mv_d (.inl rfl) rfl) ?_
            refine d_rd [] _ rfl (on_yes rfl rfl rfl hs40) (by first | exact index_msl0 rfl sel23 rfl rfl (by first | assumption | omega | (simp; omega)) | exact index_sl rfl sel23 rfl rfl (idx_map hr)) ?_
            refine d_rd [] _ rfl (on_yes rfl rfl rfl hs40) (by first | exact fieldAddr_ptr rfl fld50_2 rfl rfl | exact fieldAddr_mptr rfl fld50_2 rfl rfl) ?_
            first | refine d_rd [] _ rfl (on_yes rfl rfl rfl hs40) (by first | exact load_ptr rfl lay3 rfl rfl | exact load_flat rfl lay3 rfl rfl (by first | rfl | assumption | (simp only [List.getElem?_map, Option.map_some, *]; done)) rfl | exact load_box_d rfl lay3 rfl rfl rfl | exact load_box rfl lay3 rfl rfl rfl) ?_ | refine d_rd [0] _ rfl (on_yes rfl rfl rfl hs40) (by first | exact load_ptr rfl lay3 rfl rfl | exact load_flat rfl lay3 rfl rfl (by first | rfl | assumption | (simp only [List.getElem?_map, Option.map_some, *]; done)) rfl | exact load_box_d rfl lay3 rfl rfl rfl | exact load_box rfl lay3 rfl rfl rfl) ?_ | refine d_rd [1] _ rfl (on_yes rfl rfl rfl hs40) (by first | exact load_ptr rfl lay3 rfl rfl | exact load_flat rfl lay3 rfl rfl (by first | rfl | assumption | (simp only [List.getElem?_map, Option.map_some, *]; done)) rfl | exact load_box_d rfl lay3 rfl rfl rfl | exact load_box rfl lay3 rfl rfl rfl) ?_ | refine d_rd [2] _ rfl (on_yes rfl rfl rfl hs40) (by first | exact load_ptr rfl lay3 rfl rfl | exact load_flat rfl lay3 rfl rfl (by first | rfl | assumption | (simp only [List.getElem?_map, Option.map_some, *]; done)) rfl | exact load_box_d rfl lay3 rfl rfl rfl | exact load_box rfl lay3 rfl rfl rfl) ?_ | refine d_rd [3] _ rfl (on_yes rfl rfl rfl hs40) (by first | exact load_ptr rfl lay3 rfl rfl | exact load_flat rfl lay3 rfl rfl (by first | rfl | assumption | (simp only [List.getElem?_map, Option.map_some, *]; done)) rfl | exact load_box_d rfl lay3 rfl rfl rfl | exact load_box rfl lay3 rfl rfl rfl) ?_ | refine d_rd [0, 1] _ rfl (on_yes rfl rfl rfl hs40) (by first | exact load_ptr rfl lay3 rfl rfl | exact load_flat rfl lay3 rfl rfl (by first | rfl | assumption | (simp only [List.getElem?_map, Option.map_some, *]; done)) rfl | exact load_box_d rfl lay3 rfl rfl rfl | exact load_box rfl lay3 rfl rfl rfl) ?_
            refine d_rd [] _ rfl (on_yes rfl rfl rfl hs40) (cmp_int rfl rfl rfl rfl) ?_
            refine d_rd [] _ rfl rfl (pickh_F rfl rfl hs40 rfl) ?_
            refine d_tail ?_ (by kernel_rfl)
            refine tops_nil ?_
            refine twp_norm [2, 3, 5, 53] (sub_mptr rfl (sub_mptr rfl (sub_d rfl (sub_d rfl .nil)))) (blk_box rfl (blk_box rfl (blk_nil rfl))) ?_
            refine twp_cond _ rfl (fun hb => ?_) (fun hb => ?_)
            · have hno : p.fits m = false := by unfold Prg.fits; rw [allTo_no (zip_get hc hr) (by grind)]; simp
              refine twp_rseq ?_
              refine s_rd _ rfl (mv_d (.inr rfl) rfl) ?_
              refine tops_nil ?_
              refine twp_norm [4] (sub_d rfl .nil) (blk_box rfl (blk_box rfl (blk_nil rfl))) ?_
              refine twp_ret ?_
              refine way_blockRet ?_
              refine way_thenRet ?_
              refine way_thenRet ?_
              refine way_blockRet ?_
              refine way_thenRet ?_
              exact Ends.plainB _ rfl (by first | rw [hno] | rw [hyes])
            · refine twp_skip ?_
              refine way_block ?_
              refine way_then ?_
              refine twp_norm [2, 3, 5] (sub_mptr rfl (sub_mptr rfl (sub_d rfl .nil))) (blk_box rfl (blk_box rfl (blk_nil rfl))) ?_
              refine twp_region ?_
              refine s_rd _ rfl (mv_d (.inl rfl) rfl) ?_
              refine s_rd _ rfl (arith_ok rfl rfl rfl rfl (by omega)) ?_
              refine s_rd _ rfl (mv_d (.inr rfl) rfl) ?_
              refine tops_nil ?_
              refine way_then ?_
              exact ⟨(i + 1), [0, 1], by decide, (fun i hi => absurd hi (Nat.not_lt_zero i)), ⟨by omega, allTo_succ hinv (zip_get hc hr) (by grind)⟩, (by omega), rfl⟩
        · have hge : ¬ i < m.counts.length := by simpa using hlt
          have hi : i = m.counts.length := by omega
          have hall := allTo_end hinv (by simp; omega)
          have hyes : p.fits m = true := by unfold Prg.fits; rw [hall]; simp [c1, c2, c3]
          refine twp_exit ?_
          refine way_thenExit ?_
          refine way_thenExit ?_
          refine way_here ?_
          refine way_then ?_
          refine twp_norm [] .nil (blk_box rfl (blk_box rfl (blk_nil rfl))) ?_
          refine twp_rseq ?_
          refine s_rd _ rfl (mv_d (.inr rfl) rfl) ?_
          refine tops_nil ?_
          refine twp_norm [4] (sub_d rfl .nil) (blk_box rfl (blk_box rfl (blk_nil rfl))) ?_
          refine twp_ret ?_
          exact Ends.plainB _ rfl (by first | rw [hno] | rw [hyes])

theorem fitsR_n (p : Prg) (m : Mch) (hp : p.Wf) (hm : m.Wf) (hs : ∀ r ∈ p.rungs, r.expr.size ≤ 1000000) : RetN Try.prog 20 [p.enc, m.enc] (.bool (p.fits m)) := .unit (fitsR_step p m hp hm hs) rfl

theorem callB9 : callB Try.prog 9 = true := by kernel_rfl

theorem fewR_step (p : Prg) (k : Int) (hp : p.Wf) : Ret Try.prog 9 [] (fun _ => false) ([p.enc, .int .i64 k].map .d) (.d (.bool (p.few k))) [] := by
  have hrl := hp.rungs
  refine ret_body callB9 Try.func9 rfl Try.ntmps9 rfl rfl (fun wX gX => ?_)
  refine twp_norm [0, 1] (sub_d rfl (sub_d rfl .nil)) (blk_nil rfl) ?_
  refine twp_rseq ?_
  refine s_boxA rfl rfl rfl ?_
  refine s_eq 2 (.mptr 0 0 0 0) rfl rfl ?_
  refine s_rd _ rfl (mv_d (.inr rfl) rfl) ?_
  refine tops_nil ?_
  refine twp_norm [1, 2] (sub_d rfl (sub_mptr rfl .nil)) (blk_boxN rfl (by repeat (first | exact NormC.nil rfl | apply nc_d rfl | apply nc_msl rfl | apply nc_mptr rfl | apply nc_fnc rfl)) (blk_nil rfl)) ?_
  refine twp_seq ?_
  refine twp_rseq ?_
  refine s_rd _ rfl (fieldAddr_mptr rfl fld25_0 rfl rfl) ?_
  refine s_rd _ rfl (by first | exact load_box_d rfl lay22 rfl rfl rfl | exact load_box rfl lay22 rfl rfl rfl) ?_
  refine s_rd _ rfl (by first | exact len_d rfl sel22 rfl (by first | exact List.length_map _ | rfl) | exact len_msl rfl sel22 rfl | exact len_nil rfl sel22 rfl) ?_
  refine s_rd _ rfl (mv_d (.inl rfl) rfl) ?_
  refine s_rd _ rfl (cmp_int rfl rfl rfl rfl) ?_
  refine s_rd _ rfl (mv_d (.inl rfl) rfl) ?_
  refine s_split 11 rfl (fun c1 => ?_) (fun c1 => ?_)
  · have c1 : ¬ ((p.names.length : Int) ≤ k) := by simp at c1; omega
    refine s_no rfl rfl rfl rfl ?_
    refine s_no rfl rfl rfl rfl ?_
    refine s_no rfl rfl rfl rfl ?_
    refine s_no rfl rfl rfl rfl ?_
    refine s_rd _ rfl (by first | exact pick_Td rfl rfl rfl | exact pick_T rfl rfl rfl) ?_
    refine tops_nil ?_
    refine twp_norm [2, 16] (sub_mptr rfl (sub_d rfl .nil)) (blk_box rfl (blk_nil rfl)) ?_
    refine twp_cond true rfl (fun _ => ?_) (fun h => by cases h)
    refine twp_rseq ?_
    refine s_rd _ rfl (mv_d (.inr rfl) rfl) ?_
    refine tops_nil ?_
    refine twp_norm [4] (sub_d rfl .nil) (blk_box rfl (blk_nil rfl)) ?_
    refine twp_ret ?_
    refine way_thenRet ?_
    exact Ends.plainB _ rfl (by unfold Prg.few; first | (rw [hno]; simp; done) | (rw [hall]; simp [c1, c2]; done) | (simp [c1]; done) | (simp at c2; simp; omega))
  · have c1 : (p.names.length : Int) ≤ k := by simp at c1; omega
    refine s_yes rfl rfl rfl ?_
    refine s_rd _ rfl (fieldAddr_mptr rfl fld25_2 rfl rfl) ?_
    refine s_yes rfl rfl rfl ?_
    refine s_rd _ rfl (by first | exact load_box_d rfl lay23 rfl rfl rfl | exact load_box rfl lay23 rfl rfl rfl) ?_
    refine s_yes rfl rfl rfl ?_
    refine s_rd _ rfl (by first | exact len_d rfl sel23 rfl (by first | exact List.length_map _ | rfl) | exact len_msl rfl sel23 rfl | exact len_nil rfl sel23 rfl) ?_
    refine s_yes rfl rfl rfl ?_
    refine s_rd _ rfl (cmp_int rfl rfl rfl rfl) ?_
    refine s_rd _ rfl (by first | exact pick_Fd rfl rfl rfl | exact pick_F rfl rfl rfl) ?_
    refine tops_nil ?_
    refine twp_norm [2, 16] (sub_mptr rfl (sub_d rfl .nil)) (blk_box rfl (blk_nil rfl)) ?_
    refine twp_cond _ rfl (fun c2 => ?_) (fun c2 => ?_)
    · refine twp_rseq ?_
      refine s_rd _ rfl (mv_d (.inr rfl) rfl) ?_
      refine tops_nil ?_
      refine twp_norm [4] (sub_d rfl .nil) (blk_box rfl (blk_nil rfl)) ?_
      refine twp_ret ?_
      refine way_thenRet ?_
      exact Ends.plainB _ rfl (by unfold Prg.few; first | (rw [hno]; simp; done) | (rw [hall]; simp [c1, c2]; done) | (simp [c1]; done) | (simp at c2; simp; omega))
    · have c2 : p.rungs.length ≤ 40 := by simp at c2; omega
      refine twp_skip ?_
      refine way_then ?_
      refine twp_norm [2] (sub_mptr rfl .nil) (blk_box rfl (blk_nil rfl)) ?_
      refine twp_seq ?_
      refine twp_rseq ?_
      refine s_rd _ rfl (mv_d (.inr rfl) rfl) ?_
      refine tops_nil ?_
      refine twp_norm [2, 5] (sub_mptr rfl (sub_d rfl .nil)) (blk_box rfl (blk_nil rfl)) ?_
      refine twp_block ?_
      refine twp_whileK (fun i => ([(5, .d (.int .i64 ((i : Nat) : Int)))] : Fr)) (fun i => ([] : List (Nat × Blk))) (fun i => i ≤ p.rungs.length ∧ (allTo (fun r : Rung => decide (r.expr.size ≤ 200)) p.rungs i)) (fun i => p.rungs.length - i) [5] [2] [0] 0 (by decide) (fun i hi => absurd hi (Nat.not_lt_zero i)) ⟨Nat.zero_le _, allTo_zero⟩ (sub_mptr rfl .nil) rfl rfl (blk_box rfl (blk_nil rfl)) rfl ?_
      rintro i ⟨hok, hinv⟩
      refine twp_norm [5, 2] (sub_d rfl (sub_mptr rfl .nil)) (blk_box rfl (blk_nil rfl)) ?_
      refine twp_seq ?_
      refine twp_rseq ?_
      refine s_rd _ rfl (mv_d (.inl rfl) rfl) ?_
      refine s_rd _ rfl (fieldAddr_mptr rfl fld25_2 rfl rfl) ?_
      refine s_rd _ rfl (by first | exact load_box_d rfl lay23 rfl rfl rfl | exact load_box rfl lay23 rfl rfl rfl) ?_
      refine s_rd _ rfl (by first | exact len_d rfl sel23 rfl (by first | exact List.length_map _ | rfl) | exact len_msl rfl sel23 rfl | exact len_nil rfl sel23 rfl) ?_
      refine s_rd _ rfl (cmp_int rfl rfl rfl rfl) ?_
      refine tops_nil ?_
      refine twp_norm [2, 5, 21] (sub_mptr rfl (sub_d rfl (sub_d rfl .nil))) (blk_box rfl (blk_nil rfl)) ?_
      refine twp_cond _ rfl (fun hlt => ?_) (fun hlt => ?_)
      · have hlt : i < p.rungs.length := by simpa using hlt
        obtain ⟨r, hr⟩ : ∃ x, (p.rungs)[i]? = some x := ⟨_, List.getElem?_eq_getElem (by first | exact hlt | omega | (simp; omega))⟩
        refine twp_skip ?_
        refine way_then ?_
        refine twp_norm [2, 5] (sub_mptr rfl (sub_d rfl .nil)) (blk_box rfl (blk_nil rfl)) ?_
        refine twp_seq ?_
        refine twp_block ?_
        refine twp_rseq ?_
        refine s_rd _ rfl (fieldAddr_mptr rfl fld25_2 rfl rfl) ?_
        refine s_rd _ rfl (by first | exact load_box_d rfl lay23 rfl rfl rfl | exact load_box rfl lay23 rfl rfl rfl) ?_
        refine s_rd _ rfl (mv_d (.inl rfl) rfl) ?_
        refine s_rd _ rfl (by first | exact index_msl0 rfl sel23 rfl rfl (by first | assumption | omega | (simp; omega)) | exact index_sl rfl sel23 rfl rfl (idx_map hr)) ?_
        refine s_rd _ rfl (by first | exact fieldAddr_ptr rfl fld50_3 rfl rfl | exact fieldAddr_mptr rfl fld50_3 rfl rfl) ?_
        refine s_rd _ rfl (by first | exact load_ptrW rfl lay47 rfl rfl rfl | exact load_flatW rfl lay47 rfl rfl (by first | rfl | assumption | (simp only [List.getElem?_map, Option.map_some, *]; done)) rfl rfl | exact load_boxA_d rfl lay47 rfl rfl (Nat.le_of_ble_eq_true rfl) rfl | exact load_boxA rfl lay47 rfl rfl (Nat.le_of_ble_eq_true rfl) rfl | exact load_ptrA rfl lay47 rfl (Nat.le_of_ble_eq_true rfl) rfl) ?_
        refine s_rd _ rfl (rd_callRN rfl rfl (by repeat (first | exact snaps_nil | refine snaps_cons (.d _) ?_ | refine snaps_cons (snap_full rfl (by simp)) ?_ | refine snaps_cons (snap_full rfl rfl) ?_ | refine snaps_cons (snap_boxD rfl rfl) ?_ | refine snaps_cons (snap_agg (by repeat (first | exact SnapsO.nil | refine SnapsO.cons (Snap.d _) rfl ?_ | refine SnapsO.cons (snap_full rfl rfl) rfl ?_))) ?_)) (count_n r.expr 200 (by omega) (by omega) (hp.rung r (List.mem_of_getElem? hr)).expr)) ?_
        refine s_rd _ rfl (cmp_int rfl rfl rfl rfl) ?_
        refine tops_nil ?_
        refine twp_norm [2, 5, 31] (sub_mptr rfl (sub_d rfl (sub_d rfl .nil))) (blk_box rfl (blk_nil rfl)) ?_
        refine twp_cond _ rfl (fun hb => ?_) (fun hb => ?_)
        · have hno := allTo_no (p := fun r : Rung => decide (r.expr.size ≤ 200)) hr (by simp; simp at hb; omega)
          refine twp_rseq ?_
          refine s_rd _ rfl (mv_d (.inr rfl) rfl) ?_
          refine tops_nil ?_
          refine twp_norm [4] (sub_d rfl .nil) (blk_box rfl (blk_nil rfl)) ?_
          refine twp_ret ?_
          refine way_blockRet ?_
          refine way_thenRet ?_
          refine way_thenRet ?_
          refine way_blockRet ?_
          refine way_thenRet ?_
          exact Ends.plainB _ rfl (by unfold Prg.few; first | (rw [hno]; simp; done) | (rw [hall]; simp [c1, c2]; done) | (simp [c1]; done) | (simp at c2; simp; omega))
        · refine twp_skip ?_
          refine way_block ?_
          refine way_then ?_
          refine twp_norm [2, 5] (sub_mptr rfl (sub_d rfl .nil)) (blk_box rfl (blk_nil rfl)) ?_
          refine twp_region ?_
          refine s_rd _ rfl (mv_d (.inl rfl) rfl) ?_
          refine s_rd _ rfl (arith_ok rfl rfl rfl rfl (by omega)) ?_
          refine s_rd _ rfl (mv_d (.inr rfl) rfl) ?_
          refine tops_nil ?_
          refine way_then ?_
          exact ⟨(i + 1), [0], by decide, (fun i hi => absurd hi (Nat.not_lt_zero i)), ⟨by omega, allTo_succ hinv hr (by simp; simp at hb; omega)⟩, (by omega), rfl⟩
      · have hge : ¬ i < p.rungs.length := by simpa using hlt
        have hi : i = p.rungs.length := by omega
        have hall := allTo_end hinv hge
        refine twp_exit ?_
        refine way_thenExit ?_
        refine way_thenExit ?_
        refine way_here ?_
        refine way_then ?_
        refine twp_norm [] .nil (blk_box rfl (blk_nil rfl)) ?_
        refine twp_rseq ?_
        refine s_rd _ rfl (mv_d (.inr rfl) rfl) ?_
        refine tops_nil ?_
        refine twp_norm [4] (sub_d rfl .nil) (blk_box rfl (blk_nil rfl)) ?_
        refine twp_ret ?_
        exact Ends.plainB _ rfl (by unfold Prg.few; first | (rw [hno]; simp; done) | (rw [hall]; simp [c1, c2]; done) | (simp [c1]; done) | (simp at c2; simp; omega))

theorem fewR_n (p : Prg) (k : Int) (hp : p.Wf) : RetN Try.prog 9 [p.enc, .int .i64 k] (.bool (p.few k)) := .unit (fewR_step p k hp) rfl

theorem callB13 : callB Try.prog 13 = true := by kernel_rfl

theorem few_step (p : Prg) (m : Mch) (ins : List Bool) (hp : p.Wf) : Ret Try.prog 13 [] (fun _ => false) ([p.enc, m.enc, bools ins].map .d) (.d (.bool (few p m ins))) [] := by
  refine ret_body callB13 Try.func13 rfl Try.ntmps13 rfl rfl (fun wX gX => ?_)
  refine twp_norm [0, 1, 2] (sub_d rfl (sub_d rfl (sub_d rfl .nil))) (blk_nil rfl) ?_
  refine twp_rseq ?_
  refine s_boxA rfl rfl rfl ?_
  refine s_eq 3 (.mptr 0 0 0 0) rfl rfl ?_
  refine s_boxA rfl rfl rfl ?_
  refine s_eq 4 (.mptr 1 0 0 0) rfl rfl ?_
  refine s_rd _ rfl (mv_d (.inr rfl) rfl) ?_
  refine tops_nil ?_
  refine twp_norm [2, 3, 4] (sub_d rfl (sub_mptr rfl (sub_mptr rfl .nil))) (blk_boxN rfl (by repeat (first | exact NormC.nil rfl | apply nc_d rfl | apply nc_msl rfl | apply nc_mptr rfl | apply nc_fnc rfl)) (blk_boxN rfl (by repeat (first | exact NormC.nil rfl | apply nc_d rfl | apply nc_msl rfl | apply nc_mptr rfl | apply nc_fnc rfl)) (blk_nil rfl))) ?_
  refine twp_rseq ?_
  refine s_rd _ rfl (by first | exact load_boxA_d rfl lay25 rfl rfl (Nat.le_of_ble_eq_true rfl) rfl | exact load_boxA rfl lay25 rfl rfl (Nat.le_of_ble_eq_true rfl) rfl) ?_
  refine s_rd _ rfl (rd_callRN rfl rfl (by repeat (first | exact snaps_nil | refine snaps_cons (.d _) ?_ | refine snaps_cons (snap_full rfl (by simp)) ?_ | refine snaps_cons (snap_full rfl rfl) ?_ | refine snaps_cons (snap_boxD rfl rfl) ?_ | refine snaps_cons (snap_agg (by repeat (first | exact SnapsO.nil | refine SnapsO.cons (Snap.d _) rfl ?_ | refine SnapsO.cons (snap_full rfl rfl) rfl ?_))) ?_)) (fewR_n p 300 hp)) ?_
  refine s_rd _ rfl (mv_d (.inl rfl) rfl) ?_
  refine s_split 9 rfl (fun h0 => ?_) (fun h0 => ?_)
  · refine s_yes rfl rfl rfl ?_
    refine s_rd _ rfl (fieldAddr_mptr rfl fld34_0 rfl rfl) ?_
    refine s_yes rfl rfl rfl ?_
    refine s_rd _ rfl (by first | exact load_box_d rfl lay31 rfl rfl rfl | exact load_box rfl lay31 rfl rfl rfl) ?_
    refine s_yes rfl rfl rfl ?_
    refine s_rd _ rfl (by first | exact len_d rfl sel31 rfl (by first | exact List.length_map _ | rfl) | exact len_msl rfl sel31 rfl | exact len_nil rfl sel31 rfl) ?_
    refine s_yes rfl rfl rfl ?_
    refine s_rd _ rfl (cmp_int rfl rfl rfl rfl) ?_
    refine s_rd _ rfl (by first | exact pick_Td rfl rfl rfl | exact pick_T rfl rfl rfl) ?_
    refine s_rd _ rfl (mv_d (.inl rfl) rfl) ?_
    refine s_split 15 rfl (fun h1 => ?_) (fun h1 => ?_)
    · refine s_yes rfl rfl rfl ?_
      refine s_rd _ rfl (fieldAddr_mptr rfl fld34_1 rfl rfl) ?_
      refine s_yes rfl rfl rfl ?_
      refine s_rd _ rfl (by first | exact load_box_d rfl lay32 rfl rfl rfl | exact load_box rfl lay32 rfl rfl rfl) ?_
      refine s_yes rfl rfl rfl ?_
      refine s_rd _ rfl (by first | exact len_d rfl sel32 rfl (by first | exact List.length_map _ | rfl) | exact len_msl rfl sel32 rfl | exact len_nil rfl sel32 rfl) ?_
      refine s_yes rfl rfl rfl ?_
      refine s_rd _ rfl (cmp_int rfl rfl rfl rfl) ?_
      refine s_rd _ rfl (by first | exact pick_Td rfl rfl rfl | exact pick_T rfl rfl rfl) ?_
      refine s_rd _ rfl (mv_d (.inl rfl) rfl) ?_
      refine s_split 21 rfl (fun h2 => ?_) (fun h2 => ?_)
      · refine s_yes rfl rfl rfl ?_
        refine s_rd _ rfl (mv_d (.inl rfl) rfl) ?_
        refine s_yes rfl rfl rfl ?_
        refine s_rd _ rfl (by first | exact len_d rfl sel31 rfl (by first | exact List.length_map _ | rfl) | exact len_nil rfl sel31 rfl) ?_
        refine s_yes rfl rfl rfl ?_
        refine s_rd _ rfl (cmp_int rfl rfl rfl rfl) ?_
        refine s_rd _ rfl (by first | exact pick_Td rfl rfl rfl | exact pick_T rfl rfl rfl) ?_
        refine s_rd _ rfl (mv_d (.inr rfl) rfl) ?_
        refine tops_nil ?_
        refine twp_norm [6] (sub_d rfl .nil) (blk_box rfl (blk_box rfl (blk_nil rfl))) ?_
        refine twp_ret ?_
        exact Ends.plainB _ rfl (by unfold few; grind)
      · refine s_no rfl rfl rfl rfl ?_
        refine s_no rfl rfl rfl rfl ?_
        refine s_no rfl rfl rfl rfl ?_
        refine s_rd _ rfl (by first | exact pick_Fd rfl rfl rfl | exact pick_F rfl rfl rfl) ?_
        refine s_rd _ rfl (mv_d (.inr rfl) rfl) ?_
        refine tops_nil ?_
        refine twp_norm [6] (sub_d rfl .nil) (blk_box rfl (blk_box rfl (blk_nil rfl))) ?_
        refine twp_ret ?_
        exact Ends.plainB _ rfl (by unfold few; grind)
    · refine s_no rfl rfl rfl rfl ?_
      refine s_no rfl rfl rfl rfl ?_
      refine s_no rfl rfl rfl rfl ?_
      refine s_no rfl rfl rfl rfl ?_
      refine s_rd _ rfl (by first | exact pick_Fd rfl rfl rfl | exact pick_F rfl rfl rfl) ?_
      refine s_rd _ rfl (mv_d (.inl rfl) rfl) ?_
      refine s_no rfl rfl rfl rfl ?_
      refine s_no rfl rfl rfl rfl ?_
      refine s_no rfl rfl rfl rfl ?_
      refine s_rd _ rfl (by first | exact pick_Fd rfl rfl rfl | exact pick_F rfl rfl rfl) ?_
      refine s_rd _ rfl (mv_d (.inr rfl) rfl) ?_
      refine tops_nil ?_
      refine twp_norm [6] (sub_d rfl .nil) (blk_box rfl (blk_box rfl (blk_nil rfl))) ?_
      refine twp_ret ?_
      exact Ends.plainB _ rfl (by unfold few; grind)
  · refine s_no rfl rfl rfl rfl ?_
    refine s_no rfl rfl rfl rfl ?_
    refine s_no rfl rfl rfl rfl ?_
    refine s_no rfl rfl rfl rfl ?_
    refine s_rd _ rfl (by first | exact pick_Fd rfl rfl rfl | exact pick_F rfl rfl rfl) ?_
    refine s_rd _ rfl (mv_d (.inl rfl) rfl) ?_
    refine s_no rfl rfl rfl rfl ?_
    refine s_no rfl rfl rfl rfl ?_
    refine s_no rfl rfl rfl rfl ?_
    refine s_no rfl rfl rfl rfl ?_
    refine s_rd _ rfl (by first | exact pick_Fd rfl rfl rfl | exact pick_F rfl rfl rfl) ?_
    refine s_rd _ rfl (mv_d (.inl rfl) rfl) ?_
    refine s_no rfl rfl rfl rfl ?_
    refine s_no rfl rfl rfl rfl ?_
    refine s_no rfl rfl rfl rfl ?_
    refine s_rd _ rfl (by first | exact pick_Fd rfl rfl rfl | exact pick_F rfl rfl rfl) ?_
    refine s_rd _ rfl (mv_d (.inr rfl) rfl) ?_
    refine tops_nil ?_
    refine twp_norm [6] (sub_d rfl .nil) (blk_box rfl (blk_box rfl (blk_nil rfl))) ?_
    refine twp_ret ?_
    exact Ends.plainB _ rfl (by unfold few; grind)

theorem callB24 : callB Try.prog 24 = true := by kernel_rfl

theorem rest_step (m : Mch) (hm : m.Wf) : Ret Try.prog 24 [] (fun _ => false) ([m.enc].map .d) (.d (.bool m.rest)) [] := by
  have hvl := hm.vars
  have hcl := hm.counts
  refine ret_body callB24 Try.func24 rfl Try.ntmps24 rfl rfl (fun wX gX => ?_)
  refine twp_norm [0] (sub_d rfl .nil) (blk_nil rfl) ?_
  refine twp_rseq ?_
  refine s_boxA rfl rfl rfl ?_
  refine s_eq 1 (.mptr 0 0 0 0) rfl rfl ?_
  refine s_rd _ rfl (mv_d (.inr rfl) rfl) ?_
  refine tops_nil ?_
  refine twp_norm [1] (sub_mptr rfl .nil) (blk_boxN rfl (by repeat (first | exact NormC.nil rfl | apply nc_d rfl | apply nc_msl rfl | apply nc_mptr rfl | apply nc_fnc rfl)) (blk_nil rfl)) ?_
  refine twp_seq ?_
  refine twp_rseq ?_
  refine s_rd _ rfl (mv_d (.inr rfl) rfl) ?_
  refine tops_nil ?_
  refine twp_norm [1, 3] (sub_mptr rfl (sub_d rfl .nil)) (blk_box rfl (blk_nil rfl)) ?_
  refine twp_block ?_
  refine twp_whileK (fun i => ([(3, .d (.int .i64 ((i : Nat) : Int)))] : Fr)) (fun i => ([] : List (Nat × Blk))) (fun i => i ≤ m.vars.length ∧ (allTo (fun b => !b) m.vars i)) (fun i => m.vars.length - i) [3] [1] [0] 0 (by decide) (fun i hi => absurd hi (Nat.not_lt_zero i)) ⟨Nat.zero_le _, allTo_zero⟩ (sub_mptr rfl .nil) rfl rfl (blk_box rfl (blk_nil rfl)) rfl ?_
  rintro i ⟨hok, hinv⟩
  refine twp_norm [3, 1] (sub_d rfl (sub_mptr rfl .nil)) (blk_box rfl (blk_nil rfl)) ?_
  refine twp_seq ?_
  refine twp_rseq ?_
  refine s_rd _ rfl (mv_d (.inl rfl) rfl) ?_
  refine s_rd _ rfl (fieldAddr_mptr rfl fld34_0 rfl rfl) ?_
  refine s_rd _ rfl (by first | exact load_box_d rfl lay31 rfl rfl rfl | exact load_box rfl lay31 rfl rfl rfl) ?_
  refine s_rd _ rfl (by first | exact len_d rfl sel31 rfl (by first | exact List.length_map _ | rfl) | exact len_msl rfl sel31 rfl | exact len_nil rfl sel31 rfl) ?_
  refine s_rd _ rfl (cmp_int rfl rfl rfl rfl) ?_
  refine tops_nil ?_
  refine twp_norm [1, 3, 9] (sub_mptr rfl (sub_d rfl (sub_d rfl .nil))) (blk_box rfl (blk_nil rfl)) ?_
  refine twp_cond _ rfl (fun hlt => ?_) (fun hlt => ?_)
  · have hlt : i < m.vars.length := by simpa using hlt
    obtain ⟨x, hx⟩ : ∃ x, (m.vars)[i]? = some x := ⟨_, List.getElem?_eq_getElem (by first | exact hlt | omega | (simp; omega))⟩
    refine twp_skip ?_
    refine way_then ?_
    refine twp_norm [1, 3] (sub_mptr rfl (sub_d rfl .nil)) (blk_box rfl (blk_nil rfl)) ?_
    refine twp_seq ?_
    refine twp_block ?_
    refine twp_rseq ?_
    refine s_rd _ rfl (fieldAddr_mptr rfl fld34_0 rfl rfl) ?_
    refine s_rd _ rfl (by first | exact load_box_d rfl lay31 rfl rfl rfl | exact load_box rfl lay31 rfl rfl rfl) ?_
    refine s_rd _ rfl (mv_d (.inl rfl) rfl) ?_
    refine s_rd _ rfl (by first | exact index_msl0 rfl sel31 rfl rfl (by first | assumption | omega | (simp; omega)) | exact index_sl rfl sel31 rfl rfl (idx_map hx)) ?_
    refine s_rd _ rfl (by first | exact load_ptr rfl lay4 rfl rfl | exact load_flat rfl lay4 rfl rfl (by first | rfl | assumption | (simp only [List.getElem?_map, Option.map_some, *]; done)) rfl | exact load_box_d rfl lay4 rfl rfl rfl | exact load_box rfl lay4 rfl rfl rfl) ?_
    refine tops_nil ?_
    refine twp_norm [1, 3, 16] (sub_mptr rfl (sub_d rfl (sub_d rfl .nil))) (blk_box rfl (blk_nil rfl)) ?_
    refine twp_cond _ rfl (fun hb => ?_) (fun hb => ?_)
    · have hno : m.rest = false := by unfold Mch.rest; rw [allTo_no hx (by simpa using hb)]; rfl
      refine twp_rseq ?_
      refine s_rd _ rfl (mv_d (.inr rfl) rfl) ?_
      refine tops_nil ?_
      refine twp_norm [2] (sub_d rfl .nil) (blk_box rfl (blk_nil rfl)) ?_
      refine twp_ret ?_
      refine way_blockRet ?_
      refine way_thenRet ?_
      refine way_thenRet ?_
      refine way_blockRet ?_
      refine way_thenRet ?_
      exact Ends.plainB _ rfl (by first | rw [hno] | (unfold Mch.rest; rw [hall1, hall2]; rfl))
    · refine twp_skip ?_
      refine way_block ?_
      refine way_then ?_
      refine twp_norm [1, 3] (sub_mptr rfl (sub_d rfl .nil)) (blk_box rfl (blk_nil rfl)) ?_
      refine twp_region ?_
      refine s_rd _ rfl (mv_d (.inl rfl) rfl) ?_
      refine s_rd _ rfl (arith_ok rfl rfl rfl rfl (by omega)) ?_
      refine s_rd _ rfl (mv_d (.inr rfl) rfl) ?_
      refine tops_nil ?_
      refine way_then ?_
      exact ⟨(i + 1), [0], by decide, (fun i hi => absurd hi (Nat.not_lt_zero i)), ⟨by omega, allTo_succ hinv hx (by simpa using hb)⟩, (by omega), rfl⟩
  · have hge : ¬ i < m.vars.length := by simpa using hlt
    have hi : i = m.vars.length := by omega
    have hall1 := allTo_end hinv hge
    refine twp_exit ?_
    refine way_thenExit ?_
    refine way_thenExit ?_
    refine way_here ?_
    refine way_then ?_
    refine twp_norm [1] (sub_mptr rfl .nil) (blk_box rfl (blk_nil rfl)) ?_
    refine twp_seq ?_
    refine twp_rseq ?_
    refine s_rd _ rfl (mv_d (.inr rfl) rfl) ?_
    refine tops_nil ?_
    refine twp_norm [1, 4] (sub_mptr rfl (sub_d rfl .nil)) (blk_box rfl (blk_nil rfl)) ?_
    refine twp_block ?_
    refine twp_whileK (fun i => ([(4, .d (.int .i64 ((i : Nat) : Int)))] : Fr)) (fun i => ([] : List (Nat × Blk))) (fun i => i ≤ m.counts.length ∧ (allTo (fun n => decide (n = 0)) m.counts i)) (fun i => m.counts.length - i) [4] [1] [0] 0 (by decide) (fun i hi => absurd hi (Nat.not_lt_zero i)) ⟨Nat.zero_le _, allTo_zero⟩ (sub_mptr rfl .nil) rfl rfl (blk_box rfl (blk_nil rfl)) rfl ?_
    rintro i ⟨hok, hinv⟩
    refine twp_norm [4, 1] (sub_d rfl (sub_mptr rfl .nil)) (blk_box rfl (blk_nil rfl)) ?_
    refine twp_seq ?_
    refine twp_rseq ?_
    refine s_rd _ rfl (mv_d (.inl rfl) rfl) ?_
    refine s_rd _ rfl (fieldAddr_mptr rfl fld34_1 rfl rfl) ?_
    refine s_rd _ rfl (by first | exact load_box_d rfl lay32 rfl rfl rfl | exact load_box rfl lay32 rfl rfl rfl) ?_
    refine s_rd _ rfl (by first | exact len_d rfl sel32 rfl (by first | exact List.length_map _ | rfl) | exact len_msl rfl sel32 rfl | exact len_nil rfl sel32 rfl) ?_
    refine s_rd _ rfl (cmp_int rfl rfl rfl rfl) ?_
    refine tops_nil ?_
    refine twp_norm [1, 4, 21] (sub_mptr rfl (sub_d rfl (sub_d rfl .nil))) (blk_box rfl (blk_nil rfl)) ?_
    refine twp_cond _ rfl (fun hlt => ?_) (fun hlt => ?_)
    · have hlt : i < m.counts.length := by simpa using hlt
      obtain ⟨x, hx⟩ : ∃ x, (m.counts)[i]? = some x := ⟨_, List.getElem?_eq_getElem (by first | exact hlt | omega | (simp; omega))⟩
      refine twp_skip ?_
      refine way_then ?_
      refine twp_norm [1, 4] (sub_mptr rfl (sub_d rfl .nil)) (blk_box rfl (blk_nil rfl)) ?_
      refine twp_seq ?_
      refine twp_block ?_
      refine twp_rseq ?_
      refine s_rd _ rfl (fieldAddr_mptr rfl fld34_1 rfl rfl) ?_
      refine s_rd _ rfl (by first | exact load_box_d rfl lay32 rfl rfl rfl | exact load_box rfl lay32 rfl rfl rfl) ?_
      refine s_rd _ rfl (mv_d (.inl rfl) rfl) ?_
      refine s_rd _ rfl (by first | exact index_msl0 rfl sel32 rfl rfl (by first | assumption | omega | (simp; omega)) | exact index_sl rfl sel32 rfl rfl (idx_map hx)) ?_
      refine s_rd _ rfl (by first | exact load_ptr rfl lay3 rfl rfl | exact load_flat rfl lay3 rfl rfl (by first | rfl | assumption | (simp only [List.getElem?_map, Option.map_some, *]; done)) rfl | exact load_box_d rfl lay3 rfl rfl rfl | exact load_box rfl lay3 rfl rfl rfl) ?_
      refine s_rd _ rfl (cmp_int rfl rfl rfl rfl) ?_
      refine tops_nil ?_
      refine twp_norm [1, 4, 29] (sub_mptr rfl (sub_d rfl (sub_d rfl .nil))) (blk_box rfl (blk_nil rfl)) ?_
      refine twp_cond _ rfl (fun hb => ?_) (fun hb => ?_)
      · have hno : m.rest = false := by unfold Mch.rest; rw [allTo_no (p := fun n => decide (n = 0)) hx (by simpa using hb)]; simp
        refine twp_rseq ?_
        refine s_rd _ rfl (mv_d (.inr rfl) rfl) ?_
        refine tops_nil ?_
        refine twp_norm [2] (sub_d rfl .nil) (blk_box rfl (blk_nil rfl)) ?_
        refine twp_ret ?_
        refine way_blockRet ?_
        refine way_thenRet ?_
        refine way_thenRet ?_
        refine way_blockRet ?_
        refine way_thenRet ?_
        exact Ends.plainB _ rfl (by first | rw [hno] | (unfold Mch.rest; rw [hall1, hall2]; rfl))
      · refine twp_skip ?_
        refine way_block ?_
        refine way_then ?_
        refine twp_norm [1, 4] (sub_mptr rfl (sub_d rfl .nil)) (blk_box rfl (blk_nil rfl)) ?_
        refine twp_region ?_
        refine s_rd _ rfl (mv_d (.inl rfl) rfl) ?_
        refine s_rd _ rfl (arith_ok rfl rfl rfl rfl (by omega)) ?_
        refine s_rd _ rfl (mv_d (.inr rfl) rfl) ?_
        refine tops_nil ?_
        refine way_then ?_
        exact ⟨(i + 1), [0], by decide, (fun i hi => absurd hi (Nat.not_lt_zero i)), ⟨by omega, allTo_succ hinv hx (by simpa using hb)⟩, (by omega), rfl⟩
    · have hge : ¬ i < m.counts.length := by simpa using hlt
      have hi : i = m.counts.length := by omega
      have hall2 := allTo_end hinv hge
      refine twp_exit ?_
      refine way_thenExit ?_
      refine way_thenExit ?_
      refine way_here ?_
      refine way_then ?_
      refine twp_norm [] .nil (blk_box rfl (blk_nil rfl)) ?_
      refine twp_rseq ?_
      refine s_rd _ rfl (mv_d (.inr rfl) rfl) ?_
      refine tops_nil ?_
      refine twp_norm [2] (sub_d rfl .nil) (blk_box rfl (blk_nil rfl)) ?_
      refine twp_ret ?_
      exact Ends.plainB _ rfl (by first | rw [hno] | (unfold Mch.rest; rw [hall1, hall2]; rfl))

theorem few_n (p : Prg) (m : Mch) (ins : List Bool) (hp : p.Wf) : RetN Try.prog 13 [p.enc, m.enc, bools ins] (.bool (few p m ins)) := .unit (few_step p m ins hp) rfl
theorem rest_n (m : Mch) (hm : m.Wf) : RetN Try.prog 24 [m.enc] (.bool m.rest) := .unit (rest_step m hm) rfl

/-- What a rung makes of its count and its expression's value. -/
def Rung.tick (r : Rung) (c : Int) (v : Bool) : Int × Bool :=
  if r.kind = 2 then (if v = true then (if c < r.preset then (c + 1, decide (c + 1 = r.preset)) else (c, decide (c = r.preset))) else (0, false)) else (c, v)
def Rung.effC (r : Rung) : D := if r.kind = 2 then .clo 40 [.ptr r.enc 0] else .fn 39

theorem callB39 : callB Try.prog 39 = true := by kernel_rfl

theorem eff1_step (c : Int) (v : Bool) : Ret Try.prog 39 [] (fun _ => false) ([D.int .i64 c, .bool v].map .d) (.tup [.d (.int .i64 c), .d (.bool v)]) [] := by
  refine ret_body callB39 Try.func39 rfl Try.ntmps39 rfl rfl (fun wX gX => ?_)
  refine twp_norm [0, 1] (sub_d rfl (sub_d rfl .nil)) (blk_nil rfl) ?_
  refine twp_rseq ?_
  refine s_rd _ rfl (mv_d (.inr rfl) rfl) ?_
  refine s_rd _ rfl (mv_d (.inr rfl) rfl) ?_
  refine tops_nil ?_
  refine twp_norm [0, 1] (sub_d rfl (sub_d rfl .nil)) (blk_nil rfl) ?_
  refine twp_rseq ?_
  refine s_rd _ rfl (mv_d (.inl rfl) rfl) ?_
  refine s_rd _ rfl (mv_d (.inl rfl) rfl) ?_
  refine s_rd _ rfl (mv_d (.inr rfl) rfl) ?_
  refine s_rd _ rfl (mv_d (.inr rfl) rfl) ?_
  refine tops_nil ?_
  refine twp_norm [4, 5] (sub_d rfl (sub_d rfl .nil)) (blk_nil rfl) ?_
  refine twp_ret ?_
  exact Ends.tup2 _ _ rfl rfl rfl

theorem callB40 : callB Try.prog 40 = true := by kernel_rfl

theorem eff2_step (r : Rung) (c : Int) (v : Bool) (hc : I64 c) (hr : r.Wf) (hk : r.kind = 2) : Ret Try.prog 40 [] (fun _ => false) ([D.int .i64 c, .bool v, .ptr r.enc 0].map .d) (.tup [.d (.int .i64 (r.tick c v).1), .d (.bool (r.tick c v).2)]) [] := by
  refine ret_body callB40 Try.func40 rfl Try.ntmps40 rfl rfl (fun wX gX => ?_)
  refine twp_norm [0, 1, 2] (sub_d rfl (sub_d rfl (sub_d rfl .nil))) (blk_nil rfl) ?_
  refine twp_rseq ?_
  refine s_rd _ rfl (mv_d (.inr rfl) rfl) ?_
  refine s_rd _ rfl (mv_d (.inr rfl) rfl) ?_
  refine tops_nil ?_
  refine twp_norm [0, 1, 2] (sub_d rfl (sub_d rfl (sub_d rfl .nil))) (blk_nil rfl) ?_
  refine twp_seq ?_
  refine twp_rseq ?_
  refine s_rd _ rfl (mv_d (.inl rfl) rfl) ?_
  refine s_rd _ rfl (not_b rfl rfl rfl) ?_
  refine tops_nil ?_
  refine twp_norm [0, 2, 8] (sub_d rfl (sub_d rfl (sub_d rfl .nil))) (blk_nil rfl) ?_
  refine twp_cond _ rfl (fun hv => ?_) (fun hv => ?_)
  · have hv : v = false := by simpa using hv
    refine twp_rseq ?_
    refine s_rd _ rfl (mv_d (.inr rfl) rfl) ?_
    refine s_rd _ rfl (mv_d (.inr rfl) rfl) ?_
    refine tops_nil ?_
    refine twp_norm [5, 6] (sub_d rfl (sub_d rfl .nil)) (blk_nil rfl) ?_
    refine twp_ret ?_
    refine way_thenRet ?_
    exact Ends.tup2 _ _ rfl (d_int (by simp [Rung.tick, hk, hv]; try simp [hlt])) (d_bool (by simp [Rung.tick, hk, hv]; try simp [hlt]))
  · have hv : v = true := by simpa using hv
    refine twp_skip ?_
    refine way_then ?_
    refine twp_norm [0, 2] (sub_d rfl (sub_d rfl .nil)) (blk_nil rfl) ?_
    refine twp_seq ?_
    refine twp_rseq ?_
    refine s_rd _ rfl (mv_d (.inl rfl) rfl) ?_
    refine s_rd _ rfl (fieldAddr_ptr rfl fld50_2 rfl rfl) ?_
    refine s_rd _ rfl (load_ptr rfl lay3 rfl rfl) ?_
    refine s_rd _ rfl (cmp_int rfl rfl rfl rfl) ?_
    refine tops_nil ?_
    refine twp_norm [0, 2, 12] (sub_d rfl (sub_d rfl (sub_d rfl .nil))) (blk_nil rfl) ?_
    refine twp_cond _ rfl (fun hlt => ?_) (fun hlt => ?_)
    · have hlt := of_decide_eq_true hlt
      refine twp_region ?_
      refine s_rd _ rfl (mv_d (.inl rfl) rfl) ?_
      refine s_rd _ rfl (arith_ok rfl rfl rfl rfl (by have := hr.preset; unfold I64 at this hc; omega)) ?_
      refine s_rd _ rfl (mv_d (.inr rfl) rfl) ?_
      refine tops_nil ?_
      refine way_then ?_
      refine twp_norm [0, 2] (sub_d rfl (sub_d rfl .nil)) (blk_nil rfl) ?_
      refine twp_dseq follows  ?_
      refine d_rd [] _ rfl rfl (mv_d (.inl rfl) rfl) ?_
      refine d_rd [] _ rfl rfl (mv_d (.inl rfl) rfl) ?_
      refine d_rd [] _ rfl rfl (fieldAddr_ptr rfl fld50_2 rfl rfl) ?_
      first | refine d_rd [] _ rfl rfl (load_ptr rfl lay3 rfl rfl) ?_ | refine d_rd [0] _ rfl rfl (load_ptr rfl lay3 rfl rfl) ?_ | refine d_rd [1] _ rfl rfl (load_ptr rfl lay3 rfl rfl) ?_ | refine d_rd [2] _ rfl rfl (load_ptr rfl lay3 rfl rfl) ?_ | refine d_rd [3] _ rfl rfl (load_ptr rfl lay3 rfl rfl) ?_ | refine d_rd [0, 1] _ rfl rfl (load_ptr rfl lay3 rfl rfl) ?_
      refine d_rd [] _ rfl rfl (cmp_int rfl rfl rfl rfl) ?_
      refine d_rd [] _ rfl rfl (mv_d (.inr rfl) rfl) ?_
      refine d_tail ?_ (by kernel_rfl)
      refine s_rd _ rfl (mv_d (.inr rfl) rfl) ?_
      refine tops_nil ?_
      refine twp_norm [5, 6] (sub_d rfl (sub_d rfl .nil)) (blk_nil rfl) ?_
      refine twp_ret ?_
      exact Ends.tup2 _ _ rfl (d_int (by simp [Rung.tick, hk, hv]; try simp [hlt])) (d_bool (by simp [Rung.tick, hk, hv]; try simp [hlt]))
    · have hlt := of_decide_eq_false hlt
      refine twp_skip ?_
      refine way_then ?_
      refine twp_norm [0, 2] (sub_d rfl (sub_d rfl .nil)) (blk_nil rfl) ?_
      refine twp_dseq follows  ?_
      refine d_rd [] _ rfl rfl (mv_d (.inl rfl) rfl) ?_
      refine d_rd [] _ rfl rfl (mv_d (.inl rfl) rfl) ?_
      refine d_rd [] _ rfl rfl (fieldAddr_ptr rfl fld50_2 rfl rfl) ?_
      first | refine d_rd [] _ rfl rfl (load_ptr rfl lay3 rfl rfl) ?_ | refine d_rd [0] _ rfl rfl (load_ptr rfl lay3 rfl rfl) ?_ | refine d_rd [1] _ rfl rfl (load_ptr rfl lay3 rfl rfl) ?_ | refine d_rd [2] _ rfl rfl (load_ptr rfl lay3 rfl rfl) ?_ | refine d_rd [3] _ rfl rfl (load_ptr rfl lay3 rfl rfl) ?_ | refine d_rd [0, 1] _ rfl rfl (load_ptr rfl lay3 rfl rfl) ?_
      refine d_rd [] _ rfl rfl (cmp_int rfl rfl rfl rfl) ?_
      refine d_rd [] _ rfl rfl (mv_d (.inr rfl) rfl) ?_
      refine d_tail ?_ (by kernel_rfl)
      refine s_rd _ rfl (mv_d (.inr rfl) rfl) ?_
      refine tops_nil ?_
      refine twp_norm [5, 6] (sub_d rfl (sub_d rfl .nil)) (blk_nil rfl) ?_
      refine twp_ret ?_
      exact Ends.tup2 _ _ rfl (d_int (by simp [Rung.tick, hk, hv]; try simp [hlt])) (d_bool (by simp [Rung.tick, hk, hv]; try simp [hlt]))

theorem callB34 : callB Try.prog 34 = true := by kernel_rfl

theorem zero62 : (Try.prog.info? 62).bind (·.zero) = Option.some (Go.Value.agg #[Go.Value.nilFunc]) := by kernel_rfl

theorem plc62 : plc Try.prog 62 = some [(0, 1)] := by kernel_rfl

theorem lay62 : lay Try.prog 62 = some (true, 1) := by kernel_rfl

theorem effOf_step (r : Rung) : Ret Try.prog 34 [] (fun _ => false) ([r.enc].map .d) (.d (.agg [r.effC])) [] := by
  refine ret_body callB34 Try.func34 rfl Try.ntmps34 rfl rfl (fun wX gX => ?_)
  refine twp_norm [0] (sub_d rfl .nil) (blk_nil rfl) ?_
  refine twp_rseq ?_
  refine s_boxA rfl rfl rfl ?_
  refine s_eq 1 (.mptr 0 0 0 0) rfl rfl ?_
  refine s_alloc rfl zero62 rfl rfl ?_
  refine s_eq 2 (.mptr 1 0 0 0) rfl rfl ?_
  refine tops_nil ?_
  refine twp_norm [1, 2] (sub_mptr rfl (sub_mptr rfl .nil)) (blk_boxN rfl (by repeat (first | exact NormC.nil rfl | apply nc_d rfl | apply nc_msl rfl | apply nc_mptr rfl | apply nc_fnc rfl)) (blk_boxN rfl (by repeat (first | exact NormC.nil rfl | apply nc_d rfl | apply nc_msl rfl | apply nc_mptr rfl | apply nc_fnc rfl)) (blk_nil rfl))) ?_
  refine twp_seq ?_
  refine twp_rseq ?_
  refine s_rd _ rfl (fieldAddr_mptr rfl fld50_0 rfl rfl) ?_
  refine s_rd _ rfl (by first | exact load_box_d rfl lay3 rfl rfl rfl | exact load_box rfl lay3 rfl rfl rfl) ?_
  refine s_rd _ rfl (cmp_int rfl rfl rfl rfl) ?_
  refine tops_nil ?_
  refine twp_norm [1, 2, 5] (sub_mptr rfl (sub_mptr rfl (sub_d rfl .nil))) (blk_box rfl (blk_box rfl (blk_nil rfl))) ?_
  refine twp_cond _ rfl (fun hk => ?_) (fun hk => ?_)
  · have hk : ¬ r.kind = 2 := by simpa using hk
    refine twp_rseq ?_
    refine s_rd _ rfl (by first | exact build_d rfl plc62 zero62 rfl rfl rfl rfl | exact rd_build rfl plc62 zero62 rfl rfl rfl rfl) ?_
    refine s_store_box lay62 rfl rfl rfl rfl rfl (Nat.le_of_ble_eq_true rfl) rfl ?_
    refine tops_nil ?_
    refine twp_norm [2] (sub_mptr rfl .nil) (blk_box rfl (blk_boxN rfl (by repeat (first | exact NormC.nil rfl | apply nc_d rfl | apply nc_msl rfl | apply nc_mptr rfl | apply nc_fnc rfl)) (blk_nil rfl))) ?_
    refine twp_ret ?_
    refine way_thenRet ?_
    exact Ends.cellE _ lay62 rfl rfl rfl rfl (by unfold Rung.effC; first | (rw [if_pos hk]; done) | (rw [if_pos hk]; rfl) | rw [if_neg hk])
  · have hk : r.kind = 2 := by simpa using hk
    refine twp_skip ?_
    refine way_then ?_
    refine twp_norm [1, 2] (sub_mptr rfl (sub_mptr rfl .nil)) (blk_box rfl (blk_box rfl (blk_nil rfl))) ?_
    refine twp_rseq ?_
    refine tops_freeze' 0 (Nat.zero_le _) rfl (fun j hj => absurd hj (Nat.not_lt_zero j)) rfl ?_
    refine s_rd _ rfl (by first | exact rd_makeFuncD rfl rfl | exact rd_makeFunc rfl) ?_
    refine s_rd _ rfl (by first | exact build_d rfl plc62 zero62 rfl rfl rfl rfl | exact rd_build rfl plc62 zero62 rfl rfl rfl rfl) ?_
    refine s_store_box lay62 rfl rfl rfl rfl rfl (Nat.le_of_ble_eq_true rfl) rfl ?_
    refine tops_nil ?_
    refine twp_norm [2] (sub_mptr rfl .nil) (blk_dead rfl (blk_boxN rfl (by repeat (first | exact NormC.nil rfl | apply nc_d rfl | apply nc_msl rfl | apply nc_mptr rfl | apply nc_fnc rfl)) (blk_nil rfl))) ?_
    refine twp_ret ?_
    exact Ends.cellE _ lay62 rfl rfl rfl rfl (by unfold Rung.effC; first | (rw [if_pos hk]; done) | (rw [if_pos hk]; rfl) | rw [if_neg hk])

theorem effOf_d (r : Rung) : RetD Try.prog 34 [r.enc] (.agg [r.effC]) := .of (mv := fun _ => false) (effOf_step r)
/-- Where the effect's function begins, and that it does what is said. -/
theorem eff_t (r : Rung) (c : Int) (v : Bool) (hc : I64 c) (hr : r.Wf) : ∃ F cs, fnOf r.effC = some (F, cs) ∧ RetT Try.prog F ([.int .i64 c, .bool v] ++ cs) [.int .i64 (r.tick c v).1, .bool (r.tick c v).2] := by
  by_cases hk : r.kind = 2
  · exact ⟨40, [.ptr r.enc 0], by simp [Rung.effC, hk, fnOf], .of (mv := fun _ => false) (eff2_step r c v hc hr hk)⟩
  · refine ⟨39, [], by simp [Rung.effC, hk, fnOf], ?_⟩
    have : r.tick c v = (c, v) := by simp [Rung.tick, hk]
    rw [this]
    exact .of (mv := fun _ => false) (eff1_step c v)

end Go.Proofs.Yteedddlipoonoaa
