/- PlcHaltsSafe: whatever the program, the machine and the lists of inputs, within the sizes that the law names a machine that is halted has all variables false and all counts 0, and stays so; and the law returns true, with its arguments as they were. No condition. -/
import Derived.Test.YteedddlipoonoaaPlcU
import Derived.KernelRfl
set_option linter.unusedSimpArgs false
set_option linter.unusedVariables false
namespace Go.Proofs.Yteedddlipoonoaa
open Go Go.TL Go.ChangeShapes Go.WideShapes Go.ChangeAt Go.RowKit

theorem callB6 : callB Try.prog 6 = true := by kernel_rfl

theorem sel41 : sel Try.prog 41 = some (31, 1, 24) := by kernel_rfl

theorem plcHalts_ret (p : Prg) (m : Mch) (l : List (List Bool)) (hp : p.Wf) (hm : m.Wf) (hll : ∀ bs ∈ l, bs.length ≤ 9223372036854775807) : Ret Try.prog 6 [] (fun _ => false) ([p.enc, m.enc, .sl 1 (l.map bools)].map .d) (.d (.bool true)) [] := by
  refine ret_body callB6 Try.func6 rfl Try.ntmps6 rfl rfl (fun wX gX => ?_)
  refine twp_norm [0, 1, 2] (sub_d rfl (sub_d rfl (sub_d rfl .nil))) (blk_nil rfl) ?_
  refine twp_rseq ?_
  refine s_boxA rfl rfl rfl ?_
  refine s_eq 3 (.mptr 0 0 0 0) rfl rfl ?_
  refine s_boxA rfl rfl rfl ?_
  refine s_eq 4 (.mptr 1 0 0 0) rfl rfl ?_
  refine s_rd _ rfl (mv_d (.inr rfl) rfl) ?_
  refine tops_nil ?_
  refine twp_norm [2, 3, 4] (sub_d rfl (sub_mptr rfl (sub_mptr rfl .nil))) (blk_boxN rfl (by repeat (first | exact NormC.nil rfl | apply nc_d rfl | apply nc_msl rfl | apply nc_mptr rfl | apply nc_fnc rfl)) (blk_boxN rfl (by repeat (first | exact NormC.nil rfl | apply nc_d rfl | apply nc_msl rfl | apply nc_mptr rfl | apply nc_fnc rfl)) (blk_nil rfl))) ?_
  refine twp_seq ?_
  refine twp_rseq ?_
  refine s_rd _ rfl (mv_d (.inl rfl) rfl) ?_
  refine s_rd _ rfl (by first | exact len_d rfl sel41 rfl (by first | exact List.length_map _ | rfl) | exact len_nil rfl sel41 rfl) ?_
  refine s_rd _ rfl (cmp_int rfl rfl rfl rfl) ?_
  refine s_rd _ rfl (mv_d (.inl rfl) rfl) ?_
  refine s_split 12 rfl (fun h40 => ?_) (fun h40 => ?_)
  · refine s_no rfl rfl rfl rfl ?_
    refine s_no rfl rfl rfl rfl ?_
    refine s_no rfl rfl rfl rfl ?_
    refine s_no rfl rfl rfl rfl ?_
    refine s_rd _ rfl (by first | exact pick_Td rfl rfl rfl | exact pick_T rfl rfl rfl) ?_
    refine tops_nil ?_
    refine twp_norm [2, 3, 4, 17] (sub_d rfl (sub_mptr rfl (sub_mptr rfl (sub_d rfl .nil)))) (blk_box rfl (blk_box rfl (blk_nil rfl))) ?_
    refine twp_cond true rfl (fun _ => ?_) (fun h => by cases h)
    refine twp_rseq ?_
    refine s_rd _ rfl (rd_callRN rfl rfl snaps_nil alive_n) ?_
    refine s_rd _ rfl (mv_d (.inr rfl) rfl) ?_
    refine tops_nil ?_
    refine twp_norm [6] (sub_d rfl .nil) (blk_box rfl (blk_box rfl (blk_nil rfl))) ?_
    refine twp_ret ?_
    refine way_thenRet ?_
    exact Ends.plain _ rfl
  · have h40 : l.length ≤ 40 := by simp at h40; omega
    refine s_yes rfl rfl rfl ?_
    refine s_rd _ rfl (by first | exact load_boxA_d rfl lay25 rfl rfl (Nat.le_of_ble_eq_true rfl) rfl | exact load_boxA rfl lay25 rfl rfl (Nat.le_of_ble_eq_true rfl) rfl) ?_
    refine s_yes rfl rfl rfl ?_
    refine s_rd _ rfl (by first | exact load_boxA_d rfl lay34 rfl rfl (Nat.le_of_ble_eq_true rfl) rfl | exact load_boxA rfl lay34 rfl rfl (Nat.le_of_ble_eq_true rfl) rfl) ?_
    refine s_yes rfl rfl rfl ?_
    refine s_rd _ rfl (rd_callRD rfl rfl rfl ((few_n p m [] hp).retD.args (.cons (.refl _) (.cons (.refl _) (.cons (.nil 1) .nil))))) ?_
    refine s_yes rfl rfl rfl ?_
    refine s_rd _ rfl (not_b rfl rfl rfl) ?_
    refine s_rd _ rfl (by first | exact pick_Fd rfl rfl rfl | exact pick_F rfl rfl rfl) ?_
    refine tops_nil ?_
    refine twp_norm [2, 3, 4, 17] (sub_d rfl (sub_mptr rfl (sub_mptr rfl (sub_d rfl .nil)))) (blk_box rfl (blk_box rfl (blk_nil rfl))) ?_
    refine twp_cond _ rfl (fun hf => ?_) (fun hf => ?_)
    · refine twp_rseq ?_
      refine s_rd _ rfl (rd_callRN rfl rfl snaps_nil alive_n) ?_
      refine s_rd _ rfl (mv_d (.inr rfl) rfl) ?_
      refine tops_nil ?_
      refine twp_norm [6] (sub_d rfl .nil) (blk_box rfl (blk_box rfl (blk_nil rfl))) ?_
      refine twp_ret ?_
      refine way_thenRet ?_
      exact Ends.plain _ rfl
    · have hf : few p m [] = true := by simpa using hf
      obtain ⟨hn1, hr1, hs, _⟩ := few_ok hf
      refine twp_skip ?_
      refine way_then ?_
      refine twp_norm [2, 3, 4] (sub_d rfl (sub_mptr rfl (sub_mptr rfl .nil))) (blk_box rfl (blk_box rfl (blk_nil rfl))) ?_
      refine twp_rseq ?_
      refine s_rd _ rfl (fieldAddr_mptr rfl fld34_2 rfl rfl) ?_
      refine s_rd _ rfl (by first | exact load_box_d rfl lay4 rfl rfl rfl | exact load_box rfl lay4 rfl rfl rfl) ?_
      refine s_rd _ rfl (mv_d (.inl rfl) rfl) ?_
      refine s_split 21 rfl (fun hh0 => ?_) (fun hh0 => ?_)
      · have hS0 : hal0 p m = true := by simp [hal0, hh0]
        refine s_no rfl rfl rfl rfl ?_
        refine s_no rfl rfl rfl rfl ?_
        refine s_no rfl rfl rfl rfl ?_
        refine s_no rfl rfl rfl rfl ?_
        refine s_rd _ rfl (by first | exact pick_Td rfl rfl rfl | exact pick_T rfl rfl rfl) ?_
        refine s_rd _ rfl (mv_d (.inr rfl) rfl) ?_
        refine tops_nil ?_
        refine twp_norm [2, 3, 4, 7] (sub_d rfl (sub_mptr rfl (sub_mptr rfl (sub_d rfl .nil)))) (blk_box rfl (blk_box rfl (blk_nil rfl))) ?_
        refine twp_seq ?_
        refine twp_rseq ?_
        refine s_rd _ rfl (mv_d (.inr rfl) rfl) ?_
        refine tops_nil ?_
        refine twp_norm [2, 3, 4, 7, 8] (sub_d rfl (sub_mptr rfl (sub_mptr rfl (sub_d rfl (sub_d rfl .nil))))) (blk_box rfl (blk_box rfl (blk_nil rfl))) ?_
        refine twp_block ?_
        refine twp_whileK (fun i => ([(7, .d (.bool (hal0 p m))), (8, .d (.int .i64 ((i : Nat) : Int)))] : Fr)) (fun i => ([(1, .box 34 [.d (.sl 1 ((p.run m l i).vars.map D.bool)), .d (.sl 1 ((p.run m l i).counts.map (D.int .i64))), .d (.bool (p.run m l i).halted)])] : List (Nat × Blk))) (fun i => i ≤ l.length ∧ ((p.run m l i).Wf ∧ (hal0 p m = true → i = 0 ∨ (p.run m l i) = p.halt) ∧ (hal0 p m = true → (p.run m l i).halted = true ∨ p.fits (p.run m l i) = false) ∧ (hal0 p m = false → (p.run m l i).halted = false ∧ p.fits (p.run m l i) = true))) (fun i => l.length - i) [7, 8] [2, 3, 4] [0, 1] 0 (by decide) (fun i hi => absurd hi (Nat.not_lt_zero i)) ⟨Nat.zero_le _, ⟨hm, fun _ => .inl rfl, hal0_yes, hal0_no⟩⟩ (sub_d rfl (sub_mptr rfl (sub_mptr rfl .nil))) rfl (by rw [hS0]; rfl) (blk_box rfl (blk_box rfl (blk_nil rfl))) rfl ?_
        rintro i ⟨hok, ⟨hw, hz, hbad, hgood⟩⟩
        refine twp_norm [7, 8, 2, 3, 4] (sub_d rfl (sub_d rfl (sub_d rfl (sub_mptr rfl (sub_mptr rfl .nil))))) (blk_box rfl (blk_box rfl (blk_nil rfl))) ?_
        refine twp_seq ?_
        refine twp_rseq ?_
        refine s_rd _ rfl (mv_d (.inl rfl) rfl) ?_
        refine s_rd _ rfl (mv_d (.inl rfl) rfl) ?_
        refine s_rd _ rfl (by first | exact len_d rfl sel41 rfl (by first | exact List.length_map _ | rfl) | exact len_nil rfl sel41 rfl) ?_
        refine s_rd _ rfl (cmp_int rfl rfl rfl rfl) ?_
        refine tops_nil ?_
        refine twp_norm [2, 3, 4, 7, 8, 30] (sub_d rfl (sub_mptr rfl (sub_mptr rfl (sub_d rfl (sub_d rfl (sub_d rfl .nil)))))) (blk_box rfl (blk_box rfl (blk_nil rfl))) ?_
        refine twp_cond _ rfl (fun hlt => ?_) (fun hlt => ?_)
        · have hlt : i < l.length := by simpa using hlt
          obtain ⟨ins, hins⟩ : ∃ x, (l)[i]? = some x := ⟨_, List.getElem?_eq_getElem (by first | exact hlt | omega | (simp; omega))⟩
          have hM : p.run m l (i + 1) = p.scan (p.run m l i) ins := p.run_succ m hins
          have hbd : hal0 p m = true → p.scan (p.run m l i) ins = p.halt := fun h => p.scan_bad ins (hbad h)
          have hgd : hal0 p m = false → p.fits (p.scan (p.run m l i) ins) = true ∧ (p.scan (p.run m l i) ins).halted = false := fun h => p.scan_good ins (hgood h).1 (hgood h).2
          refine twp_skip ?_
          refine way_then ?_
          refine twp_norm [2, 3, 4, 7, 8] (sub_d rfl (sub_mptr rfl (sub_mptr rfl (sub_d rfl (sub_d rfl .nil))))) (blk_box rfl (blk_box rfl (blk_nil rfl))) ?_
          refine twp_seq ?_
          refine twp_block ?_
          refine twp_seq ?_
          refine twp_rseq ?_
          refine s_rd _ rfl (mv_d (.inl rfl) rfl) ?_
          refine s_rd _ rfl (mv_d (.inl rfl) rfl) ?_
          refine s_rd _ rfl (index_sl rfl sel41 rfl rfl (idx_map hins)) ?_
          refine s_rd _ rfl (load_ptr rfl lay31 rfl rfl) ?_
          refine s_rd _ rfl (by first | exact len_d rfl sel31 rfl (by first | exact List.length_map _ | rfl) | exact len_nil rfl sel31 rfl) ?_
          refine s_rd _ rfl (cmp_int rfl rfl rfl rfl) ?_
          refine tops_nil ?_
          refine twp_norm [2, 3, 4, 7, 8, 38] (sub_d rfl (sub_mptr rfl (sub_mptr rfl (sub_d rfl (sub_d rfl (sub_d rfl .nil)))))) (blk_box rfl (blk_box rfl (blk_nil rfl))) ?_
          refine twp_cond _ rfl (fun h5 => ?_) (fun h5 => ?_)
          · refine twp_rseq ?_
            refine s_rd _ rfl (rd_callRN rfl rfl snaps_nil alive_n) ?_
            refine s_rd _ rfl (mv_d (.inr rfl) rfl) ?_
            refine tops_nil ?_
            refine twp_norm [6] (sub_d rfl .nil) (blk_box rfl (blk_box rfl (blk_nil rfl))) ?_
            refine twp_ret ?_
            refine way_thenRet ?_
            refine way_blockRet ?_
            refine way_thenRet ?_
            refine way_thenRet ?_
            refine way_blockRet ?_
            refine way_thenRet ?_
            exact Ends.plain _ rfl
          · refine twp_skip ?_
            refine way_then ?_
            refine twp_norm [2, 3, 4, 7, 8] (sub_d rfl (sub_mptr rfl (sub_mptr rfl (sub_d rfl (sub_d rfl .nil))))) (blk_box rfl (blk_box rfl (blk_nil rfl))) ?_
            refine twp_dseq follows  ?_
            first | refine d_rd [] _ rfl rfl (by first | exact load_boxA_d rfl lay25 rfl rfl (Nat.le_of_ble_eq_true rfl) rfl | exact load_boxA rfl lay25 rfl rfl (Nat.le_of_ble_eq_true rfl) rfl) ?_ | refine d_rd [0] _ rfl rfl (by first | exact load_boxA_d rfl lay25 rfl rfl (Nat.le_of_ble_eq_true rfl) rfl | exact load_boxA rfl lay25 rfl rfl (Nat.le_of_ble_eq_true rfl) rfl) ?_ | refine d_rd [1] _ rfl rfl (by first | exact load_boxA_d rfl lay25 rfl rfl (Nat.le_of_ble_eq_true rfl) rfl | exact load_boxA rfl lay25 rfl rfl (Nat.le_of_ble_eq_true rfl) rfl) ?_
            first | refine d_rd [] _ rfl rfl (by first | exact load_boxA_d rfl lay34 rfl rfl (Nat.le_of_ble_eq_true rfl) rfl | exact load_boxA rfl lay34 rfl rfl (Nat.le_of_ble_eq_true rfl) rfl) ?_ | refine d_rd [0] _ rfl rfl (by first | exact load_boxA_d rfl lay34 rfl rfl (Nat.le_of_ble_eq_true rfl) rfl | exact load_boxA rfl lay34 rfl rfl (Nat.le_of_ble_eq_true rfl) rfl) ?_ | refine d_rd [1] _ rfl rfl (by first | exact load_boxA_d rfl lay34 rfl rfl (Nat.le_of_ble_eq_true rfl) rfl | exact load_boxA rfl lay34 rfl rfl (Nat.le_of_ble_eq_true rfl) rfl) ?_
            refine d_rd [] _ rfl rfl (mv_d (.inl rfl) rfl) ?_
            refine d_rd [] _ rfl rfl (mv_d (.inl rfl) rfl) ?_
            refine d_rd [] _ rfl rfl (index_sl rfl sel41 rfl rfl (idx_map hins)) ?_
            first | refine d_rd [] _ rfl rfl (load_ptr rfl lay31 rfl rfl) ?_ | refine d_rd [0] _ rfl rfl (load_ptr rfl lay31 rfl rfl) ?_ | refine d_rd [1] _ rfl rfl (load_ptr rfl lay31 rfl rfl) ?_
            first | refine d_rd [] _ rfl rfl (rd_callRD rfl rfl rfl (scanP_d p (p.run m l i) ins hp hw (by omega) (by omega))) ?_ | refine d_rd [0] _ rfl rfl (rd_callRD rfl rfl rfl (scanP_d p (p.run m l i) ins hp hw (by omega) (by omega))) ?_ | refine d_rd [1] _ rfl rfl (rd_callRD rfl rfl rfl (scanP_d p (p.run m l i) ins hp hw (by omega) (by omega))) ?_
            refine d_tail ?_ (by kernel_rfl)
            refine s_store_box lay34 rfl rfl rfl rfl rfl (Nat.le_of_ble_eq_true rfl) rfl ?_
            refine tops_nil ?_
            refine twp_norm [2, 3, 4, 7, 8] (sub_d rfl (sub_mptr rfl (sub_mptr rfl (sub_d rfl (sub_d rfl .nil))))) (blk_box rfl (blk_boxN rfl (by repeat (first | exact NormC.nil rfl | apply nc_d rfl | apply nc_msl rfl | apply nc_mptr rfl | apply nc_fnc rfl)) (blk_nil rfl))) ?_
            refine twp_rseq ?_
            refine s_rd _ rfl (mv_d (.inl rfl) rfl) ?_
            refine s_rd _ rfl (mv_d (.inl rfl) rfl) ?_
            refine s_split 48 rfl (fun hh => ?_) (fun hh => ?_)
            · have hS : hal0 p m = true := hh
              refine s_no rfl rfl rfl rfl ?_
              refine s_no rfl rfl rfl rfl ?_
              refine s_rd _ rfl (by first | exact pick_Td rfl rfl rfl | exact pick_T rfl rfl rfl) ?_
              refine s_rd _ rfl (mv_d (.inr rfl) rfl) ?_
              refine tops_nil ?_
              refine twp_norm [2, 3, 4, 7, 8] (sub_d rfl (sub_mptr rfl (sub_mptr rfl (sub_d rfl (sub_d rfl .nil))))) (blk_box rfl (blk_box rfl (blk_nil rfl))) ?_
              refine twp_rseq ?_
              refine s_rd _ rfl (mv_d (.inl rfl) rfl) ?_
              refine s_rd _ rfl (mv_d (.inl rfl) rfl) ?_
              refine s_yes rfl rfl rfl ?_
              refine s_rd _ rfl (fieldAddr_mptr rfl fld34_2 rfl rfl) ?_
              refine s_yes rfl rfl rfl ?_
              refine s_rd _ rfl (by first | exact load_box_d rfl lay4 rfl rfl rfl | exact load_box rfl lay4 rfl rfl rfl) ?_
              refine s_yes rfl rfl rfl ?_
              refine s_rd _ rfl (not_b rfl rfl rfl) ?_
              refine s_eq 56 (.d (.bool false)) rfl (av_bool (by rw [hbd hh]; rfl)) ?_
              refine s_yes rfl rfl rfl ?_
              refine s_rd _ rfl (mv_d (.inl rfl) rfl) ?_
              refine s_yes rfl rfl rfl ?_
              refine s_rd _ rfl (by first | exact load_boxA_d rfl lay34 rfl rfl (Nat.le_of_ble_eq_true rfl) rfl | exact load_boxA rfl lay34 rfl rfl (Nat.le_of_ble_eq_true rfl) rfl) ?_
              refine s_yes rfl rfl rfl ?_
              refine s_rd _ rfl (rd_callRN rfl rfl (by repeat (first | exact snaps_nil | refine snaps_cons (.d _) ?_ | refine snaps_cons (snap_full rfl (by simp)) ?_ | refine snaps_cons (snap_full rfl rfl) ?_ | refine snaps_cons (snap_boxD rfl rfl) ?_ | refine snaps_cons (snap_agg (by repeat (first | exact SnapsO.nil | refine SnapsO.cons (Snap.d _) rfl ?_ | refine SnapsO.cons (snap_full rfl rfl) rfl ?_))) ?_)) (rest_n (p.scan (p.run m l i) ins) (p.scan_wf hp ins))) ?_
              refine s_yes rfl rfl rfl ?_
              refine s_rd _ rfl (not_b rfl rfl rfl) ?_
              refine s_eq 60 (.d (.bool false)) rfl (av_bool (by rw [hbd hh, Prg.halt_rest]; rfl)) ?_
              refine s_yes rfl rfl rfl ?_
              refine s_rd _ rfl (by first | exact pick_Fd rfl rfl rfl | exact pick_F rfl rfl rfl) ?_
              refine s_rd _ rfl (by first | exact pick_Td rfl rfl rfl | exact pick_T rfl rfl rfl) ?_
              refine tops_nil ?_
              refine twp_norm [2, 3, 4, 7, 8, 62] (sub_d rfl (sub_mptr rfl (sub_mptr rfl (sub_d rfl (sub_d rfl (sub_d rfl .nil)))))) (blk_box rfl (blk_box rfl (blk_nil rfl))) ?_
              refine twp_cond false rfl (fun h => by cases h) (fun _ => ?_)
              refine twp_skip ?_
              refine way_block ?_
              refine way_then ?_
              refine twp_norm [2, 3, 4, 7, 8] (sub_d rfl (sub_mptr rfl (sub_mptr rfl (sub_d rfl (sub_d rfl .nil))))) (blk_box rfl (blk_box rfl (blk_nil rfl))) ?_
              refine twp_region ?_
              refine s_rd _ rfl (mv_d (.inl rfl) rfl) ?_
              refine s_rd _ rfl (arith_ok rfl rfl rfl rfl (by omega)) ?_
              refine s_rd _ rfl (mv_d (.inr rfl) rfl) ?_
              refine tops_nil ?_
              refine way_then ?_
              exact ⟨(i + 1), [0, 1], by decide, (fun i hi => absurd hi (Nat.not_lt_zero i)), ⟨by omega, ⟨hM ▸ p.scan_wf hp ins, fun h => .inr (hM.trans (hbd h)), fun h => .inl (by rw [hM, hbd h]; rfl), fun h => by rw [hM]; exact ⟨(hgd h).2, (hgd h).1⟩⟩⟩, (by omega), (by rw [hS, hM]; rfl)⟩
            · have hS : hal0 p m = (p.scan (p.run m l i) ins).halted := hh.trans (hgd hh).2.symm
              refine s_yes rfl rfl rfl ?_
              refine s_rd _ rfl (fieldAddr_mptr rfl fld34_2 rfl rfl) ?_
              refine s_yes rfl rfl rfl ?_
              refine s_rd _ rfl (by first | exact load_box_d rfl lay4 rfl rfl rfl | exact load_box rfl lay4 rfl rfl rfl) ?_
              refine s_rd _ rfl (by first | exact pick_Fd rfl rfl rfl | exact pick_F rfl rfl rfl) ?_
              refine s_rd _ rfl (mv_d (.inr rfl) rfl) ?_
              refine tops_nil ?_
              refine twp_norm [2, 3, 4, 7, 8] (sub_d rfl (sub_mptr rfl (sub_mptr rfl (sub_d rfl (sub_d rfl .nil))))) (blk_box rfl (blk_box rfl (blk_nil rfl))) ?_
              refine twp_rseq ?_
              refine s_rd _ rfl (mv_d (.inl rfl) rfl) ?_
              refine s_rd _ rfl (mv_d (.inl rfl) rfl) ?_
              refine s_split 53 rfl (fun hq => ?_) (fun hq => ?_)
              · exact (Bool.false_ne_true ((hgd hh).2.symm.trans hq)).elim
              · refine s_no rfl rfl rfl rfl ?_
                refine s_no rfl rfl rfl rfl ?_
                refine s_no rfl rfl rfl rfl ?_
                refine s_no rfl rfl rfl rfl ?_
                refine s_nor rfl rfl rfl ?_
                refine s_nor rfl rfl rfl ?_
                refine s_nor rfl rfl rfl ?_
                refine s_no rfl rfl rfl rfl ?_
                refine s_rd _ rfl (by first | exact pick_Fd rfl rfl rfl | exact pick_F rfl rfl rfl) ?_
                refine tops_nil ?_
                refine twp_norm [2, 3, 4, 7, 8, 62] (sub_d rfl (sub_mptr rfl (sub_mptr rfl (sub_d rfl (sub_d rfl (sub_d rfl .nil)))))) (blk_box rfl (blk_box rfl (blk_nil rfl))) ?_
                refine twp_cond false rfl (fun h => by cases h) (fun _ => ?_)
                refine twp_skip ?_
                refine way_block ?_
                refine way_then ?_
                refine twp_norm [2, 3, 4, 7, 8] (sub_d rfl (sub_mptr rfl (sub_mptr rfl (sub_d rfl (sub_d rfl .nil))))) (blk_box rfl (blk_box rfl (blk_nil rfl))) ?_
                refine twp_region ?_
                refine s_rd _ rfl (mv_d (.inl rfl) rfl) ?_
                refine s_rd _ rfl (arith_ok rfl rfl rfl rfl (by omega)) ?_
                refine s_rd _ rfl (mv_d (.inr rfl) rfl) ?_
                refine tops_nil ?_
                refine way_then ?_
                exact ⟨(i + 1), [0, 1], by decide, (fun i hi => absurd hi (Nat.not_lt_zero i)), ⟨by omega, ⟨hM ▸ p.scan_wf hp ins, fun h => .inr (hM.trans (hbd h)), fun h => .inl (by rw [hM, hbd h]; rfl), fun h => by rw [hM]; exact ⟨(hgd h).2, (hgd h).1⟩⟩⟩, (by omega), (by rw [hS, hM]; rfl)⟩
        · have hge : ¬ i < l.length := by simpa using hlt
          have hi : i = l.length := by omega
          refine twp_exit ?_
          refine way_thenExit ?_
          refine way_thenExit ?_
          refine way_here ?_
          refine way_then ?_
          refine twp_norm [] .nil (blk_box rfl (blk_box rfl (blk_nil rfl))) ?_
          refine twp_rseq ?_
          refine s_rd _ rfl (rd_callRN rfl rfl snaps_nil alive_n) ?_
          refine s_rd _ rfl (mv_d (.inr rfl) rfl) ?_
          refine tops_nil ?_
          refine twp_norm [6] (sub_d rfl .nil) (blk_box rfl (blk_box rfl (blk_nil rfl))) ?_
          refine twp_ret ?_
          exact Ends.plain _ rfl
      · have hS0 : hal0 p m = !p.fits m := by simp [hal0, hh0]
        refine s_yes rfl rfl rfl ?_
        refine s_rd _ rfl (by first | exact load_boxA_d rfl lay25 rfl rfl (Nat.le_of_ble_eq_true rfl) rfl | exact load_boxA rfl lay25 rfl rfl (Nat.le_of_ble_eq_true rfl) rfl) ?_
        refine s_yes rfl rfl rfl ?_
        refine s_rd _ rfl (by first | exact load_boxA_d rfl lay34 rfl rfl (Nat.le_of_ble_eq_true rfl) rfl | exact load_boxA rfl lay34 rfl rfl (Nat.le_of_ble_eq_true rfl) rfl) ?_
        refine s_yes rfl rfl rfl ?_
        refine s_rd _ rfl (rd_callRD rfl rfl rfl ((fitsP_n p m hp hm).retD)) ?_
        refine s_yes rfl rfl rfl ?_
        refine s_rd _ rfl (not_b rfl rfl rfl) ?_
        refine s_rd _ rfl (by first | exact pick_Fd rfl rfl rfl | exact pick_F rfl rfl rfl) ?_
        refine s_rd _ rfl (mv_d (.inr rfl) rfl) ?_
        refine tops_nil ?_
        refine twp_norm [2, 3, 4, 7] (sub_d rfl (sub_mptr rfl (sub_mptr rfl (sub_d rfl .nil)))) (blk_box rfl (blk_box rfl (blk_nil rfl))) ?_
        refine twp_seq ?_
        refine twp_rseq ?_
        refine s_rd _ rfl (mv_d (.inr rfl) rfl) ?_
        refine tops_nil ?_
        refine twp_norm [2, 3, 4, 7, 8] (sub_d rfl (sub_mptr rfl (sub_mptr rfl (sub_d rfl (sub_d rfl .nil))))) (blk_box rfl (blk_box rfl (blk_nil rfl))) ?_
        refine twp_block ?_
        refine twp_whileK (fun i => ([(7, .d (.bool (hal0 p m))), (8, .d (.int .i64 ((i : Nat) : Int)))] : Fr)) (fun i => ([(1, .box 34 [.d (.sl 1 ((p.run m l i).vars.map D.bool)), .d (.sl 1 ((p.run m l i).counts.map (D.int .i64))), .d (.bool (p.run m l i).halted)])] : List (Nat × Blk))) (fun i => i ≤ l.length ∧ ((p.run m l i).Wf ∧ (hal0 p m = true → i = 0 ∨ (p.run m l i) = p.halt) ∧ (hal0 p m = true → (p.run m l i).halted = true ∨ p.fits (p.run m l i) = false) ∧ (hal0 p m = false → (p.run m l i).halted = false ∧ p.fits (p.run m l i) = true))) (fun i => l.length - i) [7, 8] [2, 3, 4] [0, 1] 0 (by decide) (fun i hi => absurd hi (Nat.not_lt_zero i)) ⟨Nat.zero_le _, ⟨hm, fun _ => .inl rfl, hal0_yes, hal0_no⟩⟩ (sub_d rfl (sub_mptr rfl (sub_mptr rfl .nil))) rfl (by rw [hS0]; rfl) (blk_box rfl (blk_box rfl (blk_nil rfl))) rfl ?_
        rintro i ⟨hok, ⟨hw, hz, hbad, hgood⟩⟩
        refine twp_norm [7, 8, 2, 3, 4] (sub_d rfl (sub_d rfl (sub_d rfl (sub_mptr rfl (sub_mptr rfl .nil))))) (blk_box rfl (blk_box rfl (blk_nil rfl))) ?_
        refine twp_seq ?_
        refine twp_rseq ?_
        refine s_rd _ rfl (mv_d (.inl rfl) rfl) ?_
        refine s_rd _ rfl (mv_d (.inl rfl) rfl) ?_
        refine s_rd _ rfl (by first | exact len_d rfl sel41 rfl (by first | exact List.length_map _ | rfl) | exact len_nil rfl sel41 rfl) ?_
        refine s_rd _ rfl (cmp_int rfl rfl rfl rfl) ?_
        refine tops_nil ?_
        refine twp_norm [2, 3, 4, 7, 8, 30] (sub_d rfl (sub_mptr rfl (sub_mptr rfl (sub_d rfl (sub_d rfl (sub_d rfl .nil)))))) (blk_box rfl (blk_box rfl (blk_nil rfl))) ?_
        refine twp_cond _ rfl (fun hlt => ?_) (fun hlt => ?_)
        · have hlt : i < l.length := by simpa using hlt
          obtain ⟨ins, hins⟩ : ∃ x, (l)[i]? = some x := ⟨_, List.getElem?_eq_getElem (by first | exact hlt | omega | (simp; omega))⟩
          have hlt : i < l.length := by simpa using hlt
          obtain ⟨ins, hins⟩ : ∃ x, (l)[i]? = some x := ⟨_, List.getElem?_eq_getElem (by first | exact hlt | omega | (simp; omega))⟩
          have hM : p.run m l (i + 1) = p.scan (p.run m l i) ins := p.run_succ m hins
          have hbd : hal0 p m = true → p.scan (p.run m l i) ins = p.halt := fun h => p.scan_bad ins (hbad h)
          have hgd : hal0 p m = false → p.fits (p.scan (p.run m l i) ins) = true ∧ (p.scan (p.run m l i) ins).halted = false := fun h => p.scan_good ins (hgood h).1 (hgood h).2
          refine twp_skip ?_
          refine way_then ?_
          refine twp_norm [2, 3, 4, 7, 8] (sub_d rfl (sub_mptr rfl (sub_mptr rfl (sub_d rfl (sub_d rfl .nil))))) (blk_box rfl (blk_box rfl (blk_nil rfl))) ?_
          refine twp_seq ?_
          refine twp_block ?_
          refine twp_seq ?_
          refine twp_rseq ?_
          refine s_rd _ rfl (mv_d (.inl rfl) rfl) ?_
          refine s_rd _ rfl (mv_d (.inl rfl) rfl) ?_
          refine s_rd _ rfl (index_sl rfl sel41 rfl rfl (idx_map hins)) ?_
          refine s_rd _ rfl (load_ptr rfl lay31 rfl rfl) ?_
          refine s_rd _ rfl (by first | exact len_d rfl sel31 rfl (by first | exact List.length_map _ | rfl) | exact len_nil rfl sel31 rfl) ?_
          refine s_rd _ rfl (cmp_int rfl rfl rfl rfl) ?_
          refine tops_nil ?_
          refine twp_norm [2, 3, 4, 7, 8, 38] (sub_d rfl (sub_mptr rfl (sub_mptr rfl (sub_d rfl (sub_d rfl (sub_d rfl .nil)))))) (blk_box rfl (blk_box rfl (blk_nil rfl))) ?_
          refine twp_cond _ rfl (fun h11 => ?_) (fun h11 => ?_)
          · refine twp_rseq ?_
            refine s_rd _ rfl (rd_callRN rfl rfl snaps_nil alive_n) ?_
            refine s_rd _ rfl (mv_d (.inr rfl) rfl) ?_
            refine tops_nil ?_
            refine twp_norm [6] (sub_d rfl .nil) (blk_box rfl (blk_box rfl (blk_nil rfl))) ?_
            refine twp_ret ?_
            refine way_thenRet ?_
            refine way_blockRet ?_
            refine way_thenRet ?_
            refine way_thenRet ?_
            refine way_blockRet ?_
            refine way_thenRet ?_
            exact Ends.plain _ rfl
          · refine twp_skip ?_
            refine way_then ?_
            refine twp_norm [2, 3, 4, 7, 8] (sub_d rfl (sub_mptr rfl (sub_mptr rfl (sub_d rfl (sub_d rfl .nil))))) (blk_box rfl (blk_box rfl (blk_nil rfl))) ?_
            refine twp_dseq follows  ?_
            first | refine d_rd [] _ rfl rfl (by first | exact load_boxA_d rfl lay25 rfl rfl (Nat.le_of_ble_eq_true rfl) rfl | exact load_boxA rfl lay25 rfl rfl (Nat.le_of_ble_eq_true rfl) rfl) ?_ | refine d_rd [0] _ rfl rfl (by first | exact load_boxA_d rfl lay25 rfl rfl (Nat.le_of_ble_eq_true rfl) rfl | exact load_boxA rfl lay25 rfl rfl (Nat.le_of_ble_eq_true rfl) rfl) ?_ | refine d_rd [1] _ rfl rfl (by first | exact load_boxA_d rfl lay25 rfl rfl (Nat.le_of_ble_eq_true rfl) rfl | exact load_boxA rfl lay25 rfl rfl (Nat.le_of_ble_eq_true rfl) rfl) ?_
            first | refine d_rd [] _ rfl rfl (by first | exact load_boxA_d rfl lay34 rfl rfl (Nat.le_of_ble_eq_true rfl) rfl | exact load_boxA rfl lay34 rfl rfl (Nat.le_of_ble_eq_true rfl) rfl) ?_ | refine d_rd [0] _ rfl rfl (by first | exact load_boxA_d rfl lay34 rfl rfl (Nat.le_of_ble_eq_true rfl) rfl | exact load_boxA rfl lay34 rfl rfl (Nat.le_of_ble_eq_true rfl) rfl) ?_ | refine d_rd [1] _ rfl rfl (by first | exact load_boxA_d rfl lay34 rfl rfl (Nat.le_of_ble_eq_true rfl) rfl | exact load_boxA rfl lay34 rfl rfl (Nat.le_of_ble_eq_true rfl) rfl) ?_
            refine d_rd [] _ rfl rfl (mv_d (.inl rfl) rfl) ?_
            refine d_rd [] _ rfl rfl (mv_d (.inl rfl) rfl) ?_
            refine d_rd [] _ rfl rfl (index_sl rfl sel41 rfl rfl (idx_map hins)) ?_
            first | refine d_rd [] _ rfl rfl (load_ptr rfl lay31 rfl rfl) ?_ | refine d_rd [0] _ rfl rfl (load_ptr rfl lay31 rfl rfl) ?_ | refine d_rd [1] _ rfl rfl (load_ptr rfl lay31 rfl rfl) ?_
            first | refine d_rd [] _ rfl rfl (rd_callRD rfl rfl rfl (scanP_d p (p.run m l i) ins hp hw (by omega) (by omega))) ?_ | refine d_rd [0] _ rfl rfl (rd_callRD rfl rfl rfl (scanP_d p (p.run m l i) ins hp hw (by omega) (by omega))) ?_ | refine d_rd [1] _ rfl rfl (rd_callRD rfl rfl rfl (scanP_d p (p.run m l i) ins hp hw (by omega) (by omega))) ?_
            refine d_tail ?_ (by kernel_rfl)
            refine s_store_box lay34 rfl rfl rfl rfl rfl (Nat.le_of_ble_eq_true rfl) rfl ?_
            refine tops_nil ?_
            refine twp_norm [2, 3, 4, 7, 8] (sub_d rfl (sub_mptr rfl (sub_mptr rfl (sub_d rfl (sub_d rfl .nil))))) (blk_box rfl (blk_boxN rfl (by repeat (first | exact NormC.nil rfl | apply nc_d rfl | apply nc_msl rfl | apply nc_mptr rfl | apply nc_fnc rfl)) (blk_nil rfl))) ?_
            refine twp_rseq ?_
            refine s_rd _ rfl (mv_d (.inl rfl) rfl) ?_
            refine s_rd _ rfl (mv_d (.inl rfl) rfl) ?_
            refine s_split 48 rfl (fun hh => ?_) (fun hh => ?_)
            · have hS : hal0 p m = true := hh
              refine s_no rfl rfl rfl rfl ?_
              refine s_no rfl rfl rfl rfl ?_
              refine s_rd _ rfl (by first | exact pick_Td rfl rfl rfl | exact pick_T rfl rfl rfl) ?_
              refine s_rd _ rfl (mv_d (.inr rfl) rfl) ?_
              refine tops_nil ?_
              refine twp_norm [2, 3, 4, 7, 8] (sub_d rfl (sub_mptr rfl (sub_mptr rfl (sub_d rfl (sub_d rfl .nil))))) (blk_box rfl (blk_box rfl (blk_nil rfl))) ?_
              refine twp_rseq ?_
              refine s_rd _ rfl (mv_d (.inl rfl) rfl) ?_
              refine s_rd _ rfl (mv_d (.inl rfl) rfl) ?_
              refine s_yes rfl rfl rfl ?_
              refine s_rd _ rfl (fieldAddr_mptr rfl fld34_2 rfl rfl) ?_
              refine s_yes rfl rfl rfl ?_
              refine s_rd _ rfl (by first | exact load_box_d rfl lay4 rfl rfl rfl | exact load_box rfl lay4 rfl rfl rfl) ?_
              refine s_yes rfl rfl rfl ?_
              refine s_rd _ rfl (not_b rfl rfl rfl) ?_
              refine s_eq 56 (.d (.bool false)) rfl (av_bool (by rw [hbd hh]; rfl)) ?_
              refine s_yes rfl rfl rfl ?_
              refine s_rd _ rfl (mv_d (.inl rfl) rfl) ?_
              refine s_yes rfl rfl rfl ?_
              refine s_rd _ rfl (by first | exact load_boxA_d rfl lay34 rfl rfl (Nat.le_of_ble_eq_true rfl) rfl | exact load_boxA rfl lay34 rfl rfl (Nat.le_of_ble_eq_true rfl) rfl) ?_
              refine s_yes rfl rfl rfl ?_
              refine s_rd _ rfl (rd_callRN rfl rfl (by repeat (first | exact snaps_nil | refine snaps_cons (.d _) ?_ | refine snaps_cons (snap_full rfl (by simp)) ?_ | refine snaps_cons (snap_full rfl rfl) ?_ | refine snaps_cons (snap_boxD rfl rfl) ?_ | refine snaps_cons (snap_agg (by repeat (first | exact SnapsO.nil | refine SnapsO.cons (Snap.d _) rfl ?_ | refine SnapsO.cons (snap_full rfl rfl) rfl ?_))) ?_)) (rest_n (p.scan (p.run m l i) ins) (p.scan_wf hp ins))) ?_
              refine s_yes rfl rfl rfl ?_
              refine s_rd _ rfl (not_b rfl rfl rfl) ?_
              refine s_eq 60 (.d (.bool false)) rfl (av_bool (by rw [hbd hh, Prg.halt_rest]; rfl)) ?_
              refine s_yes rfl rfl rfl ?_
              refine s_rd _ rfl (by first | exact pick_Fd rfl rfl rfl | exact pick_F rfl rfl rfl) ?_
              refine s_rd _ rfl (by first | exact pick_Td rfl rfl rfl | exact pick_T rfl rfl rfl) ?_
              refine tops_nil ?_
              refine twp_norm [2, 3, 4, 7, 8, 62] (sub_d rfl (sub_mptr rfl (sub_mptr rfl (sub_d rfl (sub_d rfl (sub_d rfl .nil)))))) (blk_box rfl (blk_box rfl (blk_nil rfl))) ?_
              refine twp_cond false rfl (fun h => by cases h) (fun _ => ?_)
              refine twp_skip ?_
              refine way_block ?_
              refine way_then ?_
              refine twp_norm [2, 3, 4, 7, 8] (sub_d rfl (sub_mptr rfl (sub_mptr rfl (sub_d rfl (sub_d rfl .nil))))) (blk_box rfl (blk_box rfl (blk_nil rfl))) ?_
              refine twp_region ?_
              refine s_rd _ rfl (mv_d (.inl rfl) rfl) ?_
              refine s_rd _ rfl (arith_ok rfl rfl rfl rfl (by omega)) ?_
              refine s_rd _ rfl (mv_d (.inr rfl) rfl) ?_
              refine tops_nil ?_
              refine way_then ?_
              exact ⟨(i + 1), [0, 1], by decide, (fun i hi => absurd hi (Nat.not_lt_zero i)), ⟨by omega, ⟨hM ▸ p.scan_wf hp ins, fun h => .inr (hM.trans (hbd h)), fun h => .inl (by rw [hM, hbd h]; rfl), fun h => by rw [hM]; exact ⟨(hgd h).2, (hgd h).1⟩⟩⟩, (by omega), (by rw [hS, hM]; rfl)⟩
            · have hS : hal0 p m = (p.scan (p.run m l i) ins).halted := hh.trans (hgd hh).2.symm
              refine s_yes rfl rfl rfl ?_
              refine s_rd _ rfl (fieldAddr_mptr rfl fld34_2 rfl rfl) ?_
              refine s_yes rfl rfl rfl ?_
              refine s_rd _ rfl (by first | exact load_box_d rfl lay4 rfl rfl rfl | exact load_box rfl lay4 rfl rfl rfl) ?_
              refine s_rd _ rfl (by first | exact pick_Fd rfl rfl rfl | exact pick_F rfl rfl rfl) ?_
              refine s_rd _ rfl (mv_d (.inr rfl) rfl) ?_
              refine tops_nil ?_
              refine twp_norm [2, 3, 4, 7, 8] (sub_d rfl (sub_mptr rfl (sub_mptr rfl (sub_d rfl (sub_d rfl .nil))))) (blk_box rfl (blk_box rfl (blk_nil rfl))) ?_
              refine twp_rseq ?_
              refine s_rd _ rfl (mv_d (.inl rfl) rfl) ?_
              refine s_rd _ rfl (mv_d (.inl rfl) rfl) ?_
              refine s_split 53 rfl (fun hq => ?_) (fun hq => ?_)
              · exact (Bool.false_ne_true ((hgd hh).2.symm.trans hq)).elim
              · refine s_no rfl rfl rfl rfl ?_
                refine s_no rfl rfl rfl rfl ?_
                refine s_no rfl rfl rfl rfl ?_
                refine s_no rfl rfl rfl rfl ?_
                refine s_nor rfl rfl rfl ?_
                refine s_nor rfl rfl rfl ?_
                refine s_nor rfl rfl rfl ?_
                refine s_no rfl rfl rfl rfl ?_
                refine s_rd _ rfl (by first | exact pick_Fd rfl rfl rfl | exact pick_F rfl rfl rfl) ?_
                refine tops_nil ?_
                refine twp_norm [2, 3, 4, 7, 8, 62] (sub_d rfl (sub_mptr rfl (sub_mptr rfl (sub_d rfl (sub_d rfl (sub_d rfl .nil)))))) (blk_box rfl (blk_box rfl (blk_nil rfl))) ?_
                refine twp_cond false rfl (fun h => by cases h) (fun _ => ?_)
                refine twp_skip ?_
                refine way_block ?_
                refine way_then ?_
                refine twp_norm [2, 3, 4, 7, 8] (sub_d rfl (sub_mptr rfl (sub_mptr rfl (sub_d rfl (sub_d rfl .nil))))) (blk_box rfl (blk_box rfl (blk_nil rfl))) ?_
                refine twp_region ?_
                refine s_rd _ rfl (mv_d (.inl rfl) rfl) ?_
                refine s_rd _ rfl (arith_ok rfl rfl rfl rfl (by omega)) ?_
                refine s_rd _ rfl (mv_d (.inr rfl) rfl) ?_
                refine tops_nil ?_
                refine way_then ?_
                exact ⟨(i + 1), [0, 1], by decide, (fun i hi => absurd hi (Nat.not_lt_zero i)), ⟨by omega, ⟨hM ▸ p.scan_wf hp ins, fun h => .inr (hM.trans (hbd h)), fun h => .inl (by rw [hM, hbd h]; rfl), fun h => by rw [hM]; exact ⟨(hgd h).2, (hgd h).1⟩⟩⟩, (by omega), (by rw [hS, hM]; rfl)⟩
        · have hge : ¬ i < l.length := by simpa using hlt
          have hi : i = l.length := by omega
          have hge : ¬ i < l.length := by simpa using hlt
          have hi : i = l.length := by omega
          refine twp_exit ?_
          refine way_thenExit ?_
          refine way_thenExit ?_
          refine way_here ?_
          refine way_then ?_
          refine twp_norm [] .nil (blk_box rfl (blk_box rfl (blk_nil rfl))) ?_
          refine twp_rseq ?_
          refine s_rd _ rfl (rd_callRN rfl rfl snaps_nil alive_n) ?_
          refine s_rd _ rfl (mv_d (.inr rfl) rfl) ?_
          refine tops_nil ?_
          refine twp_norm [6] (sub_d rfl .nil) (blk_box rfl (blk_box rfl (blk_nil rfl))) ?_
          refine twp_ret ?_
          exact Ends.plain _ rfl

theorem plcHaltsSafe_holds_args {H : Type} (ds : List (DataW H)) (h : ds.length = Try.f6.params.toList.length) : Rows.plcHaltsSafeSpec.fn H ds = { results := [.lit (.bool true)], args := ds } := by
  have h : ds.length = 3 := h
  match ds, h with
  | [d0, d1, d2], _ => rfl
theorem plcHaltsSafe_holds_true (ds : List D) (h : ArgsOk Try.prog Try.f6.params.toList ds) : Ret Try.prog 6 [] (fun _ => false) (ds.map .d) (.d (.bool true)) [] := by
  have h : ArgsOk Try.prog [25, 34, 41] ds := h
  match ds, h with
  | [_, _, _], ⟨⟨c0, _, t0, rfl⟩, ⟨⟨c1, _, t1, rfl⟩, ⟨⟨c2, _, t2, rfl⟩, _⟩⟩⟩ =>
      obtain ⟨p, hp, e0⟩ := ty25 c0 t0
      obtain ⟨m, hm, e1⟩ := ty34 c1 t1
      obtain ⟨l, hl, e2⟩ := ty41 c2 t2
      simp only [e0, e1, e2]
      exact (plcHalts_ret p m l hp hm hl.2)
theorem plcHaltsSafe_holds : Rows.PlcHaltsSafeSaid :=
  OpenClaim.holds_of_wide 6 Try.f6 rfl rfl rfl rfl rfl rfl rfl ⟨rfl, rfl, rfl, rfl, rfl⟩ rfl rfl rfl rfl rfl (by kernel_rfl) Try.func6 (by kernel_rfl)
    (of_decide_eq_true (by kernel_rfl)) (by unfold Func.isWrapper; first | (rw [if_pos (by decide +kernel)]; kernel_rfl) | (rw [if_neg (by decide +kernel)]; exact ⟨rfl, rfl⟩))
    (fun os started H enc _ => law_lifted [25, 22, 9, 3, 23, 50, 47, 45, 34, 31, 4, 32, 41] (C := Try.checked) os own started laidOut (by kernel_rfl) Try.func6
      (ChangeSpec.witness6 (enc := enc) (C := Try.checked) false ⟨#[], #[.agg #[.slice none 0 0, .int .i64 0, .slice none 0 0], .agg #[.slice none 0 0, .slice none 0 0, .bool false], .slice none 0 0], []⟩ 8 (by kernel_rfl) (by kernel_rfl) (by kernel_rfl) (by kernel_rfl)) (by kernel_rfl) rfl plcHaltsSafe_holds_args plcHaltsSafe_holds_true)

end Go.Proofs.Yteedddlipoonoaa
