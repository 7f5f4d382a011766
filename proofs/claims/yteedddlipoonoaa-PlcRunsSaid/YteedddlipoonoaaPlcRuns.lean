/- PlcRuns: whatever the program that Check accepts and the lists of inputs, within the sizes that the law names a machine that was started fits its program after any scans, is not halted, and has the inputs of the last scan; and the law returns true, with its arguments as they were. No condition. -/
import Derived.Test.YteedddlipoonoaaPlcU
import Derived.KernelRfl
set_option linter.unusedSimpArgs false
set_option linter.unusedVariables false
namespace Go.Proofs.Yteedddlipoonoaa
open Go Go.TL Go.ChangeShapes Go.WideShapes Go.ChangeAt Go.RowKit

theorem callB7 : callB Try.prog 7 = true := by kernel_rfl

theorem sel41 : sel Try.prog 41 = some (31, 1, 24) := by kernel_rfl

theorem plcRuns_ret (p : Prg) (l : List (List Bool)) (hp : p.Wf) : Ret Try.prog 7 [] (fun _ => false) ([p.enc, .sl 1 (l.map bools)].map .d) (.d (.bool true)) [] := by
  refine ret_body callB7 Try.func7 rfl Try.ntmps7 rfl rfl (fun wX gX => ?_)
  refine twp_norm [0, 1] (sub_d rfl (sub_d rfl .nil)) (blk_nil rfl) ?_
  refine twp_rseq ?_
  refine s_boxA rfl rfl rfl ?_
  refine s_eq 2 (.mptr 0 0 0 0) rfl rfl ?_
  refine s_rd _ rfl (mv_d (.inr rfl) rfl) ?_
  refine tops_nil ?_
  refine twp_norm [1, 2] (sub_d rfl (sub_mptr rfl .nil)) (blk_boxN rfl (by repeat (first | exact NormC.nil rfl | apply nc_d rfl | apply nc_msl rfl | apply nc_mptr rfl | apply nc_fnc rfl)) (blk_nil rfl)) ?_
  refine twp_seq ?_
  refine twp_rseq ?_
  refine s_rd _ rfl (mv_d (.inl rfl) rfl) ?_
  refine s_rd _ rfl (by first | exact len_d rfl sel41 rfl (by first | exact List.length_map _ | rfl) | exact len_nil rfl sel41 rfl) ?_
  refine s_rd _ rfl (cmp_int rfl rfl rfl rfl) ?_
  refine s_rd _ rfl (mv_d (.inl rfl) rfl) ?_
  refine s_split 11 rfl (fun h40 => ?_) (fun h40 => ?_)
  · refine s_no rfl rfl rfl rfl ?_
    refine s_no rfl rfl rfl rfl ?_
    refine s_no rfl rfl rfl rfl ?_
    refine s_no rfl rfl rfl rfl ?_
    refine s_rd _ rfl (by first | exact pick_Td rfl rfl rfl | exact pick_T rfl rfl rfl) ?_
    refine s_rd _ rfl (mv_d (.inl rfl) rfl) ?_
    refine s_no rfl rfl rfl rfl ?_
    refine s_no rfl rfl rfl rfl ?_
    refine s_no rfl rfl rfl rfl ?_
    refine s_rd _ rfl (by first | exact pick_Td rfl rfl rfl | exact pick_T rfl rfl rfl) ?_
    refine tops_nil ?_
    refine twp_norm [1, 2, 21] (sub_d rfl (sub_mptr rfl (sub_d rfl .nil))) (blk_box rfl (blk_nil rfl)) ?_
    refine twp_cond true rfl (fun _ => ?_) (fun h => by cases h)
    refine twp_rseq ?_
    refine s_rd _ rfl (rd_callRN rfl rfl snaps_nil alive_n) ?_
    refine s_rd _ rfl (mv_d (.inr rfl) rfl) ?_
    refine tops_nil ?_
    refine twp_norm [4] (sub_d rfl .nil) (blk_box rfl (blk_nil rfl)) ?_
    refine twp_ret ?_
    refine way_thenRet ?_
    exact Ends.plain _ rfl
  · have h40 : l.length ≤ 40 := by simp at h40; omega
    refine s_yes rfl rfl rfl ?_
    refine s_rd _ rfl (by first | exact load_boxA_d rfl lay25 rfl rfl (Nat.le_of_ble_eq_true rfl) rfl | exact load_boxA rfl lay25 rfl rfl (Nat.le_of_ble_eq_true rfl) rfl) ?_
    refine s_yes rfl rfl rfl ?_
    refine s_rd _ rfl (by first | exact build_d rfl plc34 zero34 rfl rfl rfl rfl | exact rd_build rfl plc34 zero34 rfl rfl rfl rfl) ?_
    refine s_yes rfl rfl rfl ?_
    refine s_rd _ rfl (rd_callRD rfl rfl rfl ((few_n p ⟨[], [], false⟩ [] hp).retD.args (.cons (.refl _) (.cons (.agg (.cons (.nil 1) rfl (.cons (.nil 1) rfl (.cons (.refl _) rfl .nil)))) (.cons (.nil 1) .nil))))) ?_
    refine s_yes rfl rfl rfl ?_
    refine s_rd _ rfl (not_b rfl rfl rfl) ?_
    refine s_rd _ rfl (by first | exact pick_Fd rfl rfl rfl | exact pick_F rfl rfl rfl) ?_
    refine s_rd _ rfl (mv_d (.inl rfl) rfl) ?_
    refine s_split 17 rfl (fun hf => ?_) (fun hf => ?_)
    · refine s_no rfl rfl rfl rfl ?_
      refine s_no rfl rfl rfl rfl ?_
      refine s_no rfl rfl rfl rfl ?_
      refine s_rd _ rfl (by first | exact pick_Td rfl rfl rfl | exact pick_T rfl rfl rfl) ?_
      refine tops_nil ?_
      refine twp_norm [1, 2, 21] (sub_d rfl (sub_mptr rfl (sub_d rfl .nil))) (blk_box rfl (blk_nil rfl)) ?_
      refine twp_cond true rfl (fun _ => ?_) (fun h => by cases h)
      refine twp_rseq ?_
      refine s_rd _ rfl (rd_callRN rfl rfl snaps_nil alive_n) ?_
      refine s_rd _ rfl (mv_d (.inr rfl) rfl) ?_
      refine tops_nil ?_
      refine twp_norm [4] (sub_d rfl .nil) (blk_box rfl (blk_nil rfl)) ?_
      refine twp_ret ?_
      refine way_thenRet ?_
      exact Ends.plain _ rfl
    · have hf : few p ⟨[], [], false⟩ [] = true := by simpa using hf
      obtain ⟨hn1, hr1, hs, _⟩ := few_ok hf
      refine s_yes rfl rfl rfl ?_
      refine s_rd _ rfl (by first | exact load_boxA_d rfl lay25 rfl rfl (Nat.le_of_ble_eq_true rfl) rfl | exact load_boxA rfl lay25 rfl rfl (Nat.le_of_ble_eq_true rfl) rfl) ?_
      refine s_yes rfl rfl rfl ?_
      refine s_rd _ rfl (rd_callRD rfl rfl rfl ((checkP_n p hp).retD)) ?_
      refine s_yes rfl rfl rfl ?_
      refine s_rd _ rfl (cmp_int rfl rfl rfl rfl) ?_
      refine s_rd _ rfl (by first | exact pick_Fd rfl rfl rfl | exact pick_F rfl rfl rfl) ?_
      refine tops_nil ?_
      refine twp_norm [1, 2, 21] (sub_d rfl (sub_mptr rfl (sub_d rfl .nil))) (blk_box rfl (blk_nil rfl)) ?_
      refine twp_cond _ rfl (fun hc => ?_) (fun hc => ?_)
      · refine twp_rseq ?_
        refine s_rd _ rfl (rd_callRN rfl rfl snaps_nil alive_n) ?_
        refine s_rd _ rfl (mv_d (.inr rfl) rfl) ?_
        refine tops_nil ?_
        refine twp_norm [4] (sub_d rfl .nil) (blk_box rfl (blk_nil rfl)) ?_
        refine twp_ret ?_
        refine way_thenRet ?_
        exact Ends.plain _ rfl
      · have hc : p.check = 0 := by simpa using hc
        have hst := p.start_fits hc
        obtain ⟨_, hi0, hi1, _⟩ := Prg.check_ok hc
        refine twp_skip ?_
        refine way_then ?_
        refine twp_norm [1, 2] (sub_d rfl (sub_mptr rfl .nil)) (blk_box rfl (blk_nil rfl)) ?_
        refine twp_rseq ?_
        refine s_rd _ rfl (by first | exact load_boxA_d rfl lay25 rfl rfl (Nat.le_of_ble_eq_true rfl) rfl | exact load_boxA rfl lay25 rfl rfl (Nat.le_of_ble_eq_true rfl) rfl) ?_
        refine s_rd _ rfl (rd_callRD rfl rfl rfl (startP_d p hp (by omega) (by omega))) ?_
        refine s_alloc rfl zero34 rfl rfl ?_
        refine s_eq 5 (.mptr 1 0 0 0) rfl rfl ?_
        refine s_store_box lay34 rfl rfl rfl rfl rfl (Nat.le_of_ble_eq_true rfl) rfl ?_
        refine tops_nil ?_
        refine twp_norm [1, 2, 5] (sub_d rfl (sub_mptr rfl (sub_mptr rfl .nil))) (blk_box rfl (blk_boxN rfl (by repeat (first | exact NormC.nil rfl | apply nc_d rfl | apply nc_msl rfl | apply nc_mptr rfl | apply nc_fnc rfl)) (blk_nil rfl))) ?_
        refine twp_seq ?_
        refine twp_rseq ?_
        refine s_rd _ rfl (by first | exact load_boxA_d rfl lay25 rfl rfl (Nat.le_of_ble_eq_true rfl) rfl | exact load_boxA rfl lay25 rfl rfl (Nat.le_of_ble_eq_true rfl) rfl) ?_
        refine s_rd _ rfl (by first | exact load_boxA_d rfl lay34 rfl rfl (Nat.le_of_ble_eq_true rfl) rfl | exact load_boxA rfl lay34 rfl rfl (Nat.le_of_ble_eq_true rfl) rfl) ?_
        refine s_rd _ rfl (rd_callRD rfl rfl rfl ((fitsP_n p p.start hp (p.start_wf hp)).retD)) ?_
        refine s_rd _ rfl (not_b rfl rfl rfl) ?_
        refine s_eq 28 (.d (.bool false)) rfl (av_bool (by rw [hst.1]; rfl)) ?_
        refine s_rd _ rfl (mv_d (.inl rfl) rfl) ?_
        refine s_yes rfl rfl rfl ?_
        refine s_rd _ rfl (fieldAddr_mptr rfl fld34_2 rfl rfl) ?_
        refine s_yes rfl rfl rfl ?_
        refine s_rd _ rfl (by first | exact load_box_d rfl lay4 rfl rfl rfl | exact load_box rfl lay4 rfl rfl rfl) ?_
        refine s_eq 31 (.d (.bool false)) rfl (av_bool hst.2) ?_
        refine s_rd _ rfl (by first | exact pick_Fd rfl rfl rfl | exact pick_F rfl rfl rfl) ?_
        refine tops_nil ?_
        refine twp_norm [1, 2, 5, 32] (sub_d rfl (sub_mptr rfl (sub_mptr rfl (sub_d rfl .nil)))) (blk_box rfl (blk_box rfl (blk_nil rfl))) ?_
        refine twp_cond false rfl (fun h => by cases h) (fun _ => ?_)
        refine twp_skip ?_
        refine way_then ?_
        refine twp_norm [1, 2, 5] (sub_d rfl (sub_mptr rfl (sub_mptr rfl .nil))) (blk_box rfl (blk_box rfl (blk_nil rfl))) ?_
        refine twp_seq ?_
        refine twp_rseq ?_
        refine s_rd _ rfl (mv_d (.inr rfl) rfl) ?_
        refine tops_nil ?_
        refine twp_norm [1, 2, 5, 6] (sub_d rfl (sub_mptr rfl (sub_mptr rfl (sub_d rfl .nil)))) (blk_box rfl (blk_box rfl (blk_nil rfl))) ?_
        refine twp_block ?_
        refine twp_whileK (fun i => ([(6, .d (.int .i64 ((i : Nat) : Int)))] : Fr)) (fun i => ([(1, .box 34 [.d (.sl 1 ((p.run p.start l i).vars.map D.bool)), .d (.sl 1 ((p.run p.start l i).counts.map (D.int .i64))), .d (.bool (p.run p.start l i).halted)])] : List (Nat × Blk))) (fun i => i ≤ l.length ∧ ((p.run p.start l i).Wf ∧ p.fits (p.run p.start l i) = true ∧ (p.run p.start l i).halted = false)) (fun i => l.length - i) [6] [1, 2, 5] [0, 1] 0 (by decide) (fun i hi => absurd hi (Nat.not_lt_zero i)) ⟨Nat.zero_le _, ⟨p.start_wf hp, hst⟩⟩ (sub_d rfl (sub_mptr rfl (sub_mptr rfl .nil))) rfl rfl (blk_box rfl (blk_box rfl (blk_nil rfl))) rfl ?_
        rintro i ⟨hok, ⟨hw, hfi, hha⟩⟩
        refine twp_norm [6, 1, 2, 5] (sub_d rfl (sub_d rfl (sub_mptr rfl (sub_mptr rfl .nil)))) (blk_box rfl (blk_box rfl (blk_nil rfl))) ?_
        refine twp_seq ?_
        refine twp_rseq ?_
        refine s_rd _ rfl (mv_d (.inl rfl) rfl) ?_
        refine s_rd _ rfl (mv_d (.inl rfl) rfl) ?_
        refine s_rd _ rfl (by first | exact len_d rfl sel41 rfl (by first | exact List.length_map _ | rfl) | exact len_nil rfl sel41 rfl) ?_
        refine s_rd _ rfl (cmp_int rfl rfl rfl rfl) ?_
        refine tops_nil ?_
        refine twp_norm [1, 2, 5, 6, 36] (sub_d rfl (sub_mptr rfl (sub_mptr rfl (sub_d rfl (sub_d rfl .nil))))) (blk_box rfl (blk_box rfl (blk_nil rfl))) ?_
        refine twp_cond _ rfl (fun hlt => ?_) (fun hlt => ?_)
        · have hlt : i < l.length := by simpa using hlt
          obtain ⟨ins, hins⟩ : ∃ x, (l)[i]? = some x := ⟨_, List.getElem?_eq_getElem (by first | exact hlt | omega | (simp; omega))⟩
          have hM : p.run p.start l (i + 1) = p.scan (p.run p.start l i) ins := p.run_succ p.start hins
          have hg := p.scan_good ins hha hfi
          obtain ⟨_, hvl, _⟩ := Prg.fits_ok hg.1
          refine twp_skip ?_
          refine way_then ?_
          refine twp_norm [1, 2, 5, 6] (sub_d rfl (sub_mptr rfl (sub_mptr rfl (sub_d rfl .nil)))) (blk_box rfl (blk_box rfl (blk_nil rfl))) ?_
          refine twp_seq ?_
          refine twp_block ?_
          refine twp_seq ?_
          refine twp_rseq ?_
          refine s_rd _ rfl (mv_d (.inl rfl) rfl) ?_
          refine s_rd _ rfl (mv_d (.inl rfl) rfl) ?_
          refine s_rd _ rfl (index_sl rfl sel41 rfl rfl (idx_map hins)) ?_
          refine s_rd _ rfl (load_ptr rfl lay31 rfl rfl) ?_
          refine s_rd _ rfl (by first | exact len_d rfl sel31 rfl (by first | exact List.length_map _ | rfl) | exact len_nil rfl sel31 rfl) ?_
          refine s_rd _ rfl (cmp_int rfl rfl rfl rfl) ?_
          refine tops_nil ?_
          refine twp_norm [1, 2, 5, 6, 44] (sub_d rfl (sub_mptr rfl (sub_mptr rfl (sub_d rfl (sub_d rfl .nil))))) (blk_box rfl (blk_box rfl (blk_nil rfl))) ?_
          refine twp_cond _ rfl (fun h7 => ?_) (fun h7 => ?_)
          · refine twp_rseq ?_
            refine s_rd _ rfl (rd_callRN rfl rfl snaps_nil alive_n) ?_
            refine s_rd _ rfl (mv_d (.inr rfl) rfl) ?_
            refine tops_nil ?_
            refine twp_norm [4] (sub_d rfl .nil) (blk_box rfl (blk_box rfl (blk_nil rfl))) ?_
            refine twp_ret ?_
            refine way_thenRet ?_
            refine way_blockRet ?_
            refine way_thenRet ?_
            refine way_thenRet ?_
            refine way_blockRet ?_
            refine way_thenRet ?_
            exact Ends.plain _ rfl
          · refine twp_skip ?_
            refine way_then ?_
            refine twp_norm [1, 2, 5, 6] (sub_d rfl (sub_mptr rfl (sub_mptr rfl (sub_d rfl .nil)))) (blk_box rfl (blk_box rfl (blk_nil rfl))) ?_
            refine twp_dseq follows  ?_
            first | refine d_rd [] _ rfl rfl (by first | exact load_boxA_d rfl lay25 rfl rfl (Nat.le_of_ble_eq_true rfl) rfl | exact load_boxA rfl lay25 rfl rfl (Nat.le_of_ble_eq_true rfl) rfl) ?_ | refine d_rd [0] _ rfl rfl (by first | exact load_boxA_d rfl lay25 rfl rfl (Nat.le_of_ble_eq_true rfl) rfl | exact load_boxA rfl lay25 rfl rfl (Nat.le_of_ble_eq_true rfl) rfl) ?_ | refine d_rd [1] _ rfl rfl (by first | exact load_boxA_d rfl lay25 rfl rfl (Nat.le_of_ble_eq_true rfl) rfl | exact load_boxA rfl lay25 rfl rfl (Nat.le_of_ble_eq_true rfl) rfl) ?_
            first | refine d_rd [] _ rfl rfl (by first | exact load_boxA_d rfl lay34 rfl rfl (Nat.le_of_ble_eq_true rfl) rfl | exact load_boxA rfl lay34 rfl rfl (Nat.le_of_ble_eq_true rfl) rfl) ?_ | refine d_rd [0] _ rfl rfl (by first | exact load_boxA_d rfl lay34 rfl rfl (Nat.le_of_ble_eq_true rfl) rfl | exact load_boxA rfl lay34 rfl rfl (Nat.le_of_ble_eq_true rfl) rfl) ?_ | refine d_rd [1] _ rfl rfl (by first | exact load_boxA_d rfl lay34 rfl rfl (Nat.le_of_ble_eq_true rfl) rfl | exact load_boxA rfl lay34 rfl rfl (Nat.le_of_ble_eq_true rfl) rfl) ?_
            refine d_rd [] _ rfl rfl (mv_d (.inl rfl) rfl) ?_
            refine d_rd [] _ rfl rfl (mv_d (.inl rfl) rfl) ?_
            refine d_rd [] _ rfl rfl (index_sl rfl sel41 rfl rfl (idx_map hins)) ?_
            first | refine d_rd [] _ rfl rfl (load_ptr rfl lay31 rfl rfl) ?_ | refine d_rd [0] _ rfl rfl (load_ptr rfl lay31 rfl rfl) ?_ | refine d_rd [1] _ rfl rfl (load_ptr rfl lay31 rfl rfl) ?_
            first | refine d_rd [] _ rfl rfl (rd_callRD rfl rfl rfl (scanP_d p (p.run p.start l i) ins hp hw (by omega) (by omega))) ?_ | refine d_rd [0] _ rfl rfl (rd_callRD rfl rfl rfl (scanP_d p (p.run p.start l i) ins hp hw (by omega) (by omega))) ?_ | refine d_rd [1] _ rfl rfl (rd_callRD rfl rfl rfl (scanP_d p (p.run p.start l i) ins hp hw (by omega) (by omega))) ?_
            refine d_tail ?_ (by kernel_rfl)
            refine s_store_box lay34 rfl rfl rfl rfl rfl (Nat.le_of_ble_eq_true rfl) rfl ?_
            refine tops_nil ?_
            refine twp_norm [1, 2, 5, 6] (sub_d rfl (sub_mptr rfl (sub_mptr rfl (sub_d rfl .nil)))) (blk_box rfl (blk_boxN rfl (by repeat (first | exact NormC.nil rfl | apply nc_d rfl | apply nc_msl rfl | apply nc_mptr rfl | apply nc_fnc rfl)) (blk_nil rfl))) ?_
            refine twp_seq ?_
            refine twp_rseq ?_
            refine s_rd _ rfl (by first | exact load_boxA_d rfl lay25 rfl rfl (Nat.le_of_ble_eq_true rfl) rfl | exact load_boxA rfl lay25 rfl rfl (Nat.le_of_ble_eq_true rfl) rfl) ?_
            refine s_rd _ rfl (by first | exact load_boxA_d rfl lay34 rfl rfl (Nat.le_of_ble_eq_true rfl) rfl | exact load_boxA rfl lay34 rfl rfl (Nat.le_of_ble_eq_true rfl) rfl) ?_
            refine s_rd _ rfl (rd_callRD rfl rfl rfl ((fitsP_n p (p.scan (p.run p.start l i) ins) hp (p.scan_wf hp ins)).retD)) ?_
            refine s_rd _ rfl (not_b rfl rfl rfl) ?_
            refine s_eq 56 (.d (.bool false)) rfl (av_bool (by rw [hg.1]; rfl)) ?_
            refine s_rd _ rfl (mv_d (.inl rfl) rfl) ?_
            refine s_yes rfl rfl rfl ?_
            refine s_rd _ rfl (fieldAddr_mptr rfl fld34_2 rfl rfl) ?_
            refine s_yes rfl rfl rfl ?_
            refine s_rd _ rfl (by first | exact load_box_d rfl lay4 rfl rfl rfl | exact load_box rfl lay4 rfl rfl rfl) ?_
            refine s_eq 59 (.d (.bool false)) rfl (av_bool hg.2) ?_
            refine s_rd _ rfl (by first | exact pick_Fd rfl rfl rfl | exact pick_F rfl rfl rfl) ?_
            refine s_rd _ rfl (mv_d (.inl rfl) rfl) ?_
            refine s_yes rfl rfl rfl ?_
            refine s_rd _ rfl (fieldAddr_mptr rfl fld34_0 rfl rfl) ?_
            refine s_yes rfl rfl rfl ?_
            refine s_rd _ rfl (by first | exact load_box_d rfl lay31 rfl rfl rfl | exact load_box rfl lay31 rfl rfl rfl) ?_
            refine s_yes rfl rfl rfl ?_
            refine s_rd _ rfl (by first | exact len_d rfl sel31 rfl (by first | exact List.length_map _ | rfl) | exact len_msl rfl sel31 rfl | exact len_nil rfl sel31 rfl) ?_
            refine s_yes rfl rfl rfl ?_
            refine s_rd _ rfl (fieldAddr_mptr rfl fld25_1 rfl rfl) ?_
            refine s_yes rfl rfl rfl ?_
            refine s_rd _ rfl (by first | exact load_box_d rfl lay3 rfl rfl rfl | exact load_box rfl lay3 rfl rfl rfl) ?_
            refine s_yes rfl rfl rfl ?_
            refine s_rd _ rfl (cmp_int rfl rfl rfl rfl) ?_
            refine s_eq 67 (.d (.bool false)) rfl (av_bool (decide_eq_false (by rw [hvl]; omega))) ?_
            refine s_rd _ rfl (by first | exact pick_Fd rfl rfl rfl | exact pick_F rfl rfl rfl) ?_
            refine tops_nil ?_
            refine twp_norm [1, 2, 5, 6, 68] (sub_d rfl (sub_mptr rfl (sub_mptr rfl (sub_d rfl (sub_d rfl .nil))))) (blk_box rfl (blk_box rfl (blk_nil rfl))) ?_
            refine twp_cond false rfl (fun h => by cases h) (fun _ => ?_)
            refine twp_skip ?_
            refine way_then ?_
            refine twp_norm [1, 2, 5, 6] (sub_d rfl (sub_mptr rfl (sub_mptr rfl (sub_d rfl .nil)))) (blk_box rfl (blk_box rfl (blk_nil rfl))) ?_
            refine twp_rseq ?_
            refine s_rd _ rfl (mv_d (.inr rfl) rfl) ?_
            refine tops_nil ?_
            refine twp_norm [1, 2, 5, 6, 7] (sub_d rfl (sub_mptr rfl (sub_mptr rfl (sub_d rfl (sub_d rfl .nil))))) (blk_box rfl (blk_box rfl (blk_nil rfl))) ?_
            refine twp_block ?_
            refine twp_whileK (fun k => ([(7, .d (.int .i64 ((k : Nat) : Int)))] : Fr)) (fun k => ([] : List (Nat × Blk))) (fun k => k ≤ p.inputs.toNat) (fun k => p.inputs.toNat - k) [7] [1, 2, 5, 6] [0, 1] 0 (by decide) (fun i hi => absurd hi (Nat.not_lt_zero i)) (Nat.zero_le _) (sub_d rfl (sub_mptr rfl (sub_mptr rfl (sub_d rfl .nil)))) rfl rfl (blk_box rfl (blk_box rfl (blk_nil rfl))) rfl ?_
            rintro k hok
            refine twp_norm [7, 1, 2, 5, 6] (sub_d rfl (sub_d rfl (sub_mptr rfl (sub_mptr rfl (sub_d rfl .nil))))) (blk_box rfl (blk_box rfl (blk_nil rfl))) ?_
            refine twp_seq ?_
            refine twp_rseq ?_
            refine s_rd _ rfl (mv_d (.inl rfl) rfl) ?_
            refine s_rd _ rfl (fieldAddr_mptr rfl fld25_1 rfl rfl) ?_
            refine s_rd _ rfl (by first | exact load_box_d rfl lay3 rfl rfl rfl | exact load_box rfl lay3 rfl rfl rfl) ?_
            refine s_rd _ rfl (cmp_int rfl rfl rfl rfl) ?_
            refine tops_nil ?_
            refine twp_norm [1, 2, 5, 6, 7, 72] (sub_d rfl (sub_mptr rfl (sub_mptr rfl (sub_d rfl (sub_d rfl (sub_d rfl .nil)))))) (blk_box rfl (blk_box rfl (blk_nil rfl))) ?_
            refine twp_cond _ rfl (fun hlt => ?_) (fun hlt => ?_)
            · have hlt : (k : Int) < p.inputs := of_decide_eq_true hlt
              have hvk := Prg.scan_input (ins := ins) hha hfi hlt
              refine twp_skip ?_
              refine way_then ?_
              refine twp_norm [1, 2, 5, 6, 7] (sub_d rfl (sub_mptr rfl (sub_mptr rfl (sub_d rfl (sub_d rfl .nil))))) (blk_box rfl (blk_box rfl (blk_nil rfl))) ?_
              refine twp_seq ?_
              refine twp_block ?_
              refine twp_dseq follows  ?_
              refine d_rd [] _ rfl rfl (fieldAddr_mptr rfl fld34_0 rfl rfl) ?_
              first | refine d_rd [] _ rfl rfl (by first | exact load_box_d rfl lay31 rfl rfl rfl | exact load_box rfl lay31 rfl rfl rfl) ?_ | refine d_rd [0] _ rfl rfl (by first | exact load_box_d rfl lay31 rfl rfl rfl | exact load_box rfl lay31 rfl rfl rfl) ?_ | refine d_rd [1] _ rfl rfl (by first | exact load_box_d rfl lay31 rfl rfl rfl | exact load_box rfl lay31 rfl rfl rfl) ?_
              refine d_rd [] _ rfl rfl (mv_d (.inl rfl) rfl) ?_
              refine d_rd [] _ rfl rfl (by first | exact index_msl0 rfl sel31 rfl rfl (by first | assumption | omega | (simp; omega)) | exact index_sl rfl sel31 rfl rfl ⟨by omega, by rw [Int.toNat_natCast, List.getElem?_map, hvk]; rfl⟩) ?_
              first | refine d_rd [] _ rfl rfl (by first | exact load_ptr rfl lay4 rfl rfl | exact load_flat rfl lay4 rfl rfl (by first | rfl | assumption | (simp only [List.getElem?_map, Option.map_some, *]; done)) rfl | exact load_box_d rfl lay4 rfl rfl rfl | exact load_box rfl lay4 rfl rfl rfl) ?_ | refine d_rd [0] _ rfl rfl (by first | exact load_ptr rfl lay4 rfl rfl | exact load_flat rfl lay4 rfl rfl (by first | rfl | assumption | (simp only [List.getElem?_map, Option.map_some, *]; done)) rfl | exact load_box_d rfl lay4 rfl rfl rfl | exact load_box rfl lay4 rfl rfl rfl) ?_ | refine d_rd [1] _ rfl rfl (by first | exact load_ptr rfl lay4 rfl rfl | exact load_flat rfl lay4 rfl rfl (by first | rfl | assumption | (simp only [List.getElem?_map, Option.map_some, *]; done)) rfl | exact load_box_d rfl lay4 rfl rfl rfl | exact load_box rfl lay4 rfl rfl rfl) ?_
              refine d_rd [] _ rfl rfl (mv_d (.inl rfl) rfl) ?_
              refine d_rd [] _ rfl rfl (mv_d (.inl rfl) rfl) ?_
              refine d_rd [] _ rfl rfl (mv_d (.inl rfl) rfl) ?_
              refine d_rd [] _ rfl rfl (index_sl rfl sel41 rfl rfl (idx_map hins)) ?_
              first | refine d_rd [] _ rfl rfl (load_ptr rfl lay31 rfl rfl) ?_ | refine d_rd [0] _ rfl rfl (load_ptr rfl lay31 rfl rfl) ?_ | refine d_rd [1] _ rfl rfl (load_ptr rfl lay31 rfl rfl) ?_
              first | refine d_rd [] _ rfl rfl (by first | exact len_d rfl sel31 rfl (by first | exact List.length_map _ | rfl) | exact len_nil rfl sel31 rfl) ?_ | refine d_rd [0] _ rfl rfl (by first | exact len_d rfl sel31 rfl (by first | exact List.length_map _ | rfl) | exact len_nil rfl sel31 rfl) ?_ | refine d_rd [1] _ rfl rfl (by first | exact len_d rfl sel31 rfl (by first | exact List.length_map _ | rfl) | exact len_nil rfl sel31 rfl) ?_
              refine d_rd [] _ rfl rfl (cmp_int rfl rfl rfl rfl) ?_
              refine d_rd [] _ rfl rfl (mv_d (.inl rfl) rfl) ?_
              refine d_split 87 rfl (fun hq => ?_) (fun hq => ?_)
              · have hs87 := hq
                have hq : k < ins.length := by simpa using hq
                obtain ⟨b, hb⟩ := get_lt hq
                have hgd : ins.getD k false = b := by rw [List.getD_eq_getElem?_getD, hb]; rfl
                refine d_rd [] _ rfl (on_yes rfl rfl rfl hs87) (mv_d (.inl rfl) rfl) ?_
                refine d_rd [] _ rfl (on_yes rfl rfl rfl hs87) (mv_d (.inl rfl) rfl) ?_
                refine d_rd [] _ rfl (on_yes rfl rfl rfl hs87) (index_sl rfl sel41 rfl rfl (idx_map hins)) ?_
                first | refine d_rd [] _ rfl (on_yes rfl rfl rfl hs87) (load_ptr rfl lay31 rfl rfl) ?_ | refine d_rd [0] _ rfl (on_yes rfl rfl rfl hs87) (load_ptr rfl lay31 rfl rfl) ?_ | refine d_rd [1] _ rfl (on_yes rfl rfl rfl hs87) (load_ptr rfl lay31 rfl rfl) ?_
                refine d_rd [] _ rfl (on_yes rfl rfl rfl hs87) (mv_d (.inl rfl) rfl) ?_
                refine d_rd [] _ rfl (on_yes rfl rfl rfl hs87) (index_sl rfl sel31 rfl rfl (idx_map hb)) ?_
                first | refine d_rd [] _ rfl (on_yes rfl rfl rfl hs87) (load_ptr rfl lay4 rfl rfl) ?_ | refine d_rd [0] _ rfl (on_yes rfl rfl rfl hs87) (load_ptr rfl lay4 rfl rfl) ?_ | refine d_rd [1] _ rfl (on_yes rfl rfl rfl hs87) (load_ptr rfl lay4 rfl rfl) ?_
                refine d_rd [] _ rfl rfl (pickh_T rfl rfl hs87 rfl) ?_
                refine d_rd [] _ rfl rfl (cmp_bool Try.underlying4 rfl rfl rfl rfl) ?_
                refine d_tail ?_ (by kernel_rfl)
                refine tops_nil ?_
                refine twp_norm [1, 2, 5, 6, 7, 96] (sub_d rfl (sub_mptr rfl (sub_mptr rfl (sub_d rfl (sub_d rfl (sub_d rfl .nil)))))) (blk_box rfl (blk_box rfl (blk_nil rfl))) ?_
                refine twp_cond _ rfl (fun hne => ?_) (fun hne => ?_)
                · exact absurd hne (by rw [hgd]; simp)
                · refine twp_skip ?_
                  refine way_block ?_
                  refine way_then ?_
                  refine twp_norm [1, 2, 5, 6, 7] (sub_d rfl (sub_mptr rfl (sub_mptr rfl (sub_d rfl (sub_d rfl .nil))))) (blk_box rfl (blk_box rfl (blk_nil rfl))) ?_
                  refine twp_region ?_
                  refine s_rd _ rfl (mv_d (.inl rfl) rfl) ?_
                  refine s_rd _ rfl (arith_ok rfl rfl rfl rfl (by omega)) ?_
                  refine s_rd _ rfl (mv_d (.inr rfl) rfl) ?_
                  refine tops_nil ?_
                  refine way_then ?_
                  exact ⟨(k + 1), [0, 1], by decide, (fun i hi => absurd hi (Nat.not_lt_zero i)), (by omega), (by omega), rfl⟩
              · have hs87 := hq
                have hgd : ins.getD k false = false := by rw [List.getD_eq_getElem?_getD, List.getElem?_eq_none (by simp at hq; omega)]; rfl
                refine d_skip rfl (on_no rfl rfl rfl hs87) ?_
                refine d_skip rfl (on_no rfl rfl rfl hs87) ?_
                refine d_skip rfl (on_no rfl rfl rfl hs87) ?_
                refine d_skip rfl (on_no rfl rfl rfl hs87) ?_
                refine d_skip rfl (on_no rfl rfl rfl hs87) ?_
                refine d_skip rfl (on_no rfl rfl rfl hs87) ?_
                refine d_skip rfl (on_no rfl rfl rfl hs87) ?_
                refine d_rd [] _ rfl rfl (pickh_F rfl rfl hs87 rfl) ?_
                refine d_rd [] _ rfl rfl (cmp_bool Try.underlying4 rfl rfl rfl rfl) ?_
                refine d_tail ?_ (by kernel_rfl)
                refine tops_nil ?_
                refine twp_norm [1, 2, 5, 6, 7, 96] (sub_d rfl (sub_mptr rfl (sub_mptr rfl (sub_d rfl (sub_d rfl (sub_d rfl .nil)))))) (blk_box rfl (blk_box rfl (blk_nil rfl))) ?_
                refine twp_cond _ rfl (fun hne => ?_) (fun hne => ?_)
                · exact absurd hne (by rw [hgd]; simp)
                · refine twp_skip ?_
                  refine way_block ?_
                  refine way_then ?_
                  refine twp_norm [1, 2, 5, 6, 7] (sub_d rfl (sub_mptr rfl (sub_mptr rfl (sub_d rfl (sub_d rfl .nil))))) (blk_box rfl (blk_box rfl (blk_nil rfl))) ?_
                  refine twp_region ?_
                  refine s_rd _ rfl (mv_d (.inl rfl) rfl) ?_
                  refine s_rd _ rfl (arith_ok rfl rfl rfl rfl (by omega)) ?_
                  refine s_rd _ rfl (mv_d (.inr rfl) rfl) ?_
                  refine tops_nil ?_
                  refine way_then ?_
                  exact ⟨(k + 1), [0, 1], by decide, (fun i hi => absurd hi (Nat.not_lt_zero i)), (by omega), (by omega), rfl⟩
            · refine twp_exit ?_
              refine way_thenExit ?_
              refine way_thenExit ?_
              refine way_here ?_
              refine way_block ?_
              refine way_then ?_
              refine twp_norm [1, 2, 5, 6] (sub_d rfl (sub_mptr rfl (sub_mptr rfl (sub_d rfl .nil)))) (blk_box rfl (blk_box rfl (blk_nil rfl))) ?_
              refine twp_region ?_
              refine s_rd _ rfl (mv_d (.inl rfl) rfl) ?_
              refine s_rd _ rfl (arith_ok rfl rfl rfl rfl (by omega)) ?_
              refine s_rd _ rfl (mv_d (.inr rfl) rfl) ?_
              refine tops_nil ?_
              refine way_then ?_
              exact ⟨(i + 1), [0, 1], by decide, (fun i hi => absurd hi (Nat.not_lt_zero i)), ⟨by omega, ⟨hM ▸ p.scan_wf hp ins, hM ▸ hg.1, hM ▸ hg.2⟩⟩, (by omega), (by rw [hM]; rfl)⟩
        · have hge : ¬ i < l.length := by simpa using hlt
          have hi : i = l.length := by omega
          refine twp_exit ?_
          refine way_thenExit ?_
          refine way_thenExit ?_
          refine way_here ?_
          refine way_then ?_
          refine twp_norm [] .nil (blk_box rfl (blk_box rfl (blk_nil rfl))) ?_
          refine twp_rseq ?_
          refine s_rd _ rfl (rd_callRN rfl rfl snaps_nil alive_n) ?_
          refine s_rd _ rfl (mv_d (.inr rfl) rfl) ?_
          refine tops_nil ?_
          refine twp_norm [4] (sub_d rfl .nil) (blk_box rfl (blk_box rfl (blk_nil rfl))) ?_
          refine twp_ret ?_
          exact Ends.plain _ rfl

theorem plcRuns_holds_args {H : Type} (ds : List (DataW H)) (h : ds.length = Try.f7.params.toList.length) : Rows.plcRunsSpec.fn H ds = { results := [.lit (.bool true)], args := ds } := by
  have h : ds.length = 2 := h
  match ds, h with
  | [d0, d1], _ => rfl
theorem plcRuns_holds_true (ds : List D) (h : ArgsOk Try.prog Try.f7.params.toList ds) : Ret Try.prog 7 [] (fun _ => false) (ds.map .d) (.d (.bool true)) [] := by
  have h : ArgsOk Try.prog [25, 41] ds := h
  match ds, h with
  | [_, _], ⟨⟨c0, _, t0, rfl⟩, ⟨⟨c1, _, t1, rfl⟩, _⟩⟩ =>
      obtain ⟨p, hp, e0⟩ := ty25 c0 t0
      obtain ⟨l, hl, e1⟩ := ty41 c1 t1
      simp only [e0, e1]
      exact (plcRuns_ret p l hp)
theorem plcRuns_holds : Rows.PlcRunsSaid :=
  OpenClaim.holds_of_wide 7 Try.f7 rfl rfl rfl rfl rfl rfl rfl ⟨rfl, rfl, rfl, rfl, rfl⟩ rfl rfl rfl rfl rfl (by kernel_rfl) Try.func7 (by kernel_rfl)
    (of_decide_eq_true (by kernel_rfl)) (by unfold Func.isWrapper; first | (rw [if_pos (by decide +kernel)]; kernel_rfl) | (rw [if_neg (by decide +kernel)]; exact ⟨rfl, rfl⟩))
    (fun os started H enc _ => law_lifted [25, 22, 9, 3, 23, 50, 47, 45, 41, 31, 4] (C := Try.checked) os own started laidOut (by kernel_rfl) Try.func7
      (ChangeSpec.witness6 (enc := enc) (C := Try.checked) false ⟨#[], #[.agg #[.slice none 0 0, .int .i64 0, .slice none 0 0], .slice none 0 0], []⟩ 8 (by kernel_rfl) (by kernel_rfl) (by kernel_rfl) (by kernel_rfl)) (by kernel_rfl) rfl plcRuns_holds_args plcRuns_holds_true)

end Go.Proofs.Yteedddlipoonoaa
