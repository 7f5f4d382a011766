/- A scan, walked. No condition. -/
import Derived.Test.YteedddlipoonoaaPlcS
import Derived.Test.YteedddlipoonoaaTlZ
import Derived.KernelRfl
set_option linter.unusedSimpArgs false
set_option linter.unusedVariables false
namespace Go.Proofs.Yteedddlipoonoaa
open Go Go.TL

theorem callB22 : callB Try.prog 22 = true := by kernel_rfl

theorem fldv62_0 : fldv Try.prog 62 0 = some (0, false, 1) := by kernel_rfl

theorem scanP_step (p : Prg) (m : Mch) (ins : List Bool) (hp : p.Wf) (hm : m.Wf) (hn : p.names.length ≤ 100000) (hr0 : p.rungs.length ≤ 100000) : Ret Try.prog 22 [] (fun _ => false) ([p.enc, m.enc, bools ins].map .d) (.d (p.scan m ins).enc) [] := by
  refine ret_bodyS callB22 Try.func22 rfl Try.ntmps22 rfl rfl (fun wX gX => ?_)
  refine twp_norm [0, 1, 2] (sub_d rfl (sub_d rfl (sub_d rfl .nil))) (blk_nil rfl) ?_
  refine twp_rseq ?_
  refine s_boxA rfl rfl rfl ?_
  refine s_eq 3 (.mptr 0 0 0 0) rfl rfl ?_
  refine s_boxA rfl rfl rfl ?_
  refine s_eq 4 (.mptr 1 0 0 0) rfl rfl ?_
  refine s_alloc rfl zero34 rfl rfl ?_
  refine s_eq 6 (.mptr 2 0 0 0) rfl rfl ?_
  refine tops_nil ?_
  refine twp_norm [2, 3, 4, 6] (sub_d rfl (sub_mptr rfl (sub_mptr rfl (sub_mptr rfl .nil)))) (blk_boxN rfl (by repeat (first | exact NormC.nil rfl | apply nc_d rfl | apply nc_msl rfl | apply nc_mptr rfl | apply nc_fnc rfl)) (blk_boxN rfl (by repeat (first | exact NormC.nil rfl | apply nc_d rfl | apply nc_msl rfl | apply nc_mptr rfl | apply nc_fnc rfl)) (blk_boxN rfl (by repeat (first | exact NormC.nil rfl | apply nc_d rfl | apply nc_msl rfl | apply nc_mptr rfl | apply nc_fnc rfl)) (blk_nil rfl)))) ?_
  refine twp_seq ?_
  refine twp_rseq ?_
  refine s_rd _ rfl (fieldAddr_mptr rfl fld34_2 rfl rfl) ?_
  refine s_rd _ rfl (by first | exact load_box_d rfl lay4 rfl rfl rfl | exact load_box rfl lay4 rfl rfl rfl) ?_
  refine s_rd _ rfl (mv_d (.inl rfl) rfl) ?_
  refine s_split 13 rfl (fun hha => ?_) (fun hha => ?_)
  · have hbad : m.halted = true ∨ p.fits m = false := .inl hha
    refine s_no rfl rfl rfl rfl ?_
    refine s_no rfl rfl rfl rfl ?_
    refine s_no rfl rfl rfl rfl ?_
    refine s_no rfl rfl rfl rfl ?_
    refine s_rd _ rfl (by first | exact pick_Td rfl rfl rfl | exact pick_T rfl rfl rfl) ?_
    refine tops_nil ?_
    refine twp_norm [2, 3, 4, 6, 18] (sub_d rfl (sub_mptr rfl (sub_mptr rfl (sub_mptr rfl (sub_d rfl .nil))))) (blk_box rfl (blk_box rfl (blk_box rfl (blk_nil rfl)))) ?_
    refine twp_cond true rfl (fun _ => ?_) (fun h => by cases h)
    refine twp_rseq ?_
    refine s_rd _ rfl (by first | exact load_boxA_d rfl lay25 rfl rfl (Nat.le_of_ble_eq_true rfl) rfl | exact load_boxA rfl lay25 rfl rfl (Nat.le_of_ble_eq_true rfl) rfl) ?_
    refine s_rd _ rfl (rd_callRD rfl rfl rfl (haltP_d p hp hn hr0)) ?_
    refine s_store_box lay34 rfl rfl rfl rfl rfl (Nat.le_of_ble_eq_true rfl) rfl ?_
    refine tops_nil ?_
    refine twp_norm [6] (sub_mptr rfl .nil) (blk_box rfl (blk_box rfl (blk_boxN rfl (by repeat (first | exact NormC.nil rfl | apply nc_d rfl | apply nc_msl rfl | apply nc_mptr rfl | apply nc_fnc rfl)) (blk_nil rfl)))) ?_
    refine twp_ret ?_
    refine way_thenRet ?_
    first
      | exact EndsS.cell _ lay34 rfl rfl rfl rfl ((Snap.d _).same (by unfold Prg.scan; rw [if_pos hbad]; first | done | rfl))
      | exact EndsS.cell _ lay34 rfl rfl rfl rfl ((snap_agg (.cons (snap_full rfl (by rw [List.length_map, scanTo_len1, inVars_length])) rfl (.cons (snap_full rfl (by rw [List.length_map, scanTo_len2])) rfl (.cons (.d _) rfl .nil)))).same (by unfold Prg.scan; rw [if_neg (by simp [hha, hfit])]; rfl))
  · have hha : m.halted = false := by simpa using hha
    refine s_yes rfl rfl rfl ?_
    refine s_rd _ rfl (by first | exact load_boxA_d rfl lay25 rfl rfl (Nat.le_of_ble_eq_true rfl) rfl | exact load_boxA rfl lay25 rfl rfl (Nat.le_of_ble_eq_true rfl) rfl) ?_
    refine s_yes rfl rfl rfl ?_
    refine s_rd _ rfl (by first | exact load_boxA_d rfl lay34 rfl rfl (Nat.le_of_ble_eq_true rfl) rfl | exact load_boxA rfl lay34 rfl rfl (Nat.le_of_ble_eq_true rfl) rfl) ?_
    refine s_yes rfl rfl rfl ?_
    refine s_rd _ rfl (rd_callRD rfl rfl rfl ((fitsP_n p m hp hm).retD)) ?_
    refine s_yes rfl rfl rfl ?_
    refine s_rd _ rfl (not_b rfl rfl rfl) ?_
    refine s_rd _ rfl (by first | exact pick_Fd rfl rfl rfl | exact pick_F rfl rfl rfl) ?_
    refine tops_nil ?_
    refine twp_norm [2, 3, 4, 6, 18] (sub_d rfl (sub_mptr rfl (sub_mptr rfl (sub_mptr rfl (sub_d rfl .nil))))) (blk_box rfl (blk_box rfl (blk_box rfl (blk_nil rfl)))) ?_
    refine twp_cond _ rfl (fun hf => ?_) (fun hf => ?_)
    · have hbad : m.halted = true ∨ p.fits m = false := .inr (by simpa using hf)
      refine twp_rseq ?_
      refine s_rd _ rfl (by first | exact load_boxA_d rfl lay25 rfl rfl (Nat.le_of_ble_eq_true rfl) rfl | exact load_boxA rfl lay25 rfl rfl (Nat.le_of_ble_eq_true rfl) rfl) ?_
      refine s_rd _ rfl (rd_callRD rfl rfl rfl (haltP_d p hp hn hr0)) ?_
      refine s_store_box lay34 rfl rfl rfl rfl rfl (Nat.le_of_ble_eq_true rfl) rfl ?_
      refine tops_nil ?_
      refine twp_norm [6] (sub_mptr rfl .nil) (blk_box rfl (blk_box rfl (blk_boxN rfl (by repeat (first | exact NormC.nil rfl | apply nc_d rfl | apply nc_msl rfl | apply nc_mptr rfl | apply nc_fnc rfl)) (blk_nil rfl)))) ?_
      refine twp_ret ?_
      refine way_thenRet ?_
      first
        | exact EndsS.cell _ lay34 rfl rfl rfl rfl ((Snap.d _).same (by unfold Prg.scan; rw [if_pos hbad]; first | done | rfl))
        | exact EndsS.cell _ lay34 rfl rfl rfl rfl ((snap_agg (.cons (snap_full rfl (by rw [List.length_map, scanTo_len1, inVars_length])) rfl (.cons (snap_full rfl (by rw [List.length_map, scanTo_len2])) rfl (.cons (.d _) rfl .nil)))).same (by unfold Prg.scan; rw [if_neg (by simp [hha, hfit])]; rfl))
    · have hfit : p.fits m = true := by simpa using hf
      obtain ⟨hck, hvl, hcl, hbd⟩ := Prg.fits_ok hfit
      obtain ⟨hnl, hi0, hi1, hright, hnodup⟩ := Prg.check_ok hck
      refine twp_skip ?_
      refine way_then ?_
      refine twp_norm [2, 3, 4, 6] (sub_d rfl (sub_mptr rfl (sub_mptr rfl (sub_mptr rfl .nil)))) (blk_box rfl (blk_box rfl (blk_box rfl (blk_nil rfl)))) ?_
      refine twp_hole ?_
      refine twp_hole ?_
      refine twp_hole ?_
      refine twp_dseq follows  ?_
      refine d_rd [] _ rfl rfl (fieldAddr_mptr rfl fld34_0 rfl rfl) ?_
      first | refine d_rd [] _ rfl rfl (by first | exact load_box_d rfl lay31 rfl rfl rfl | exact load_box rfl lay31 rfl rfl rfl) ?_ | refine d_rd [0] _ rfl rfl (by first | exact load_box_d rfl lay31 rfl rfl rfl | exact load_box rfl lay31 rfl rfl rfl) ?_ | refine d_rd [1] _ rfl rfl (by first | exact load_box_d rfl lay31 rfl rfl rfl | exact load_box rfl lay31 rfl rfl rfl) ?_ | refine d_rd [3] _ rfl rfl (by first | exact load_box_d rfl lay31 rfl rfl rfl | exact load_box rfl lay31 rfl rfl rfl) ?_ | refine d_rd [4] _ rfl rfl (by first | exact load_box_d rfl lay31 rfl rfl rfl | exact load_box rfl lay31 rfl rfl rfl) ?_ | refine d_rd [5] _ rfl rfl (by first | exact load_box_d rfl lay31 rfl rfl rfl | exact load_box rfl lay31 rfl rfl rfl) ?_ | refine d_rd [6] _ rfl rfl (by first | exact load_box_d rfl lay31 rfl rfl rfl | exact load_box rfl lay31 rfl rfl rfl) ?_
      refine d_wr [3] _ _ rfl rfl rfl (w_callRow (i := 3) rfl rfl rfl rfl (cloneB_ret m.vars (by omega) (fun _ => false)) (mem0_all _ (fun _ => rfl) _)) ?_
      refine d_rd [] _ rfl rfl (fieldAddr_mptr rfl fld34_1 rfl rfl) ?_
      first | refine d_rd [] _ rfl rfl (by first | exact load_box_d rfl lay32 rfl rfl rfl | exact load_box rfl lay32 rfl rfl rfl) ?_ | refine d_rd [0] _ rfl rfl (by first | exact load_box_d rfl lay32 rfl rfl rfl | exact load_box rfl lay32 rfl rfl rfl) ?_ | refine d_rd [1] _ rfl rfl (by first | exact load_box_d rfl lay32 rfl rfl rfl | exact load_box rfl lay32 rfl rfl rfl) ?_ | refine d_rd [3] _ rfl rfl (by first | exact load_box_d rfl lay32 rfl rfl rfl | exact load_box rfl lay32 rfl rfl rfl) ?_ | refine d_rd [4] _ rfl rfl (by first | exact load_box_d rfl lay32 rfl rfl rfl | exact load_box rfl lay32 rfl rfl rfl) ?_ | refine d_rd [5] _ rfl rfl (by first | exact load_box_d rfl lay32 rfl rfl rfl | exact load_box rfl lay32 rfl rfl rfl) ?_ | refine d_rd [6] _ rfl rfl (by first | exact load_box_d rfl lay32 rfl rfl rfl | exact load_box rfl lay32 rfl rfl rfl) ?_
      refine d_wr [4] _ _ rfl rfl rfl (w_callRow (i := 4) rfl rfl rfl rfl (cloneI_ret m.counts (by omega) (fun _ => false)) (mem0_all _ (fun _ => rfl) _)) ?_
      refine d_rd [] _ rfl rfl (by first | exact build_d rfl plc34 zero34 rfl rfl rfl rfl | exact rd_build rfl plc34 zero34 rfl rfl rfl rfl) ?_
      refine d_wr [5] _ _ rfl rfl rfl (w_alloc (i := 5) rfl rfl zero34 rfl rfl) ?_
      refine d_tail ?_ (by kernel_rfl)
      refine s_store_box lay34 rfl rfl rfl rfl rfl (Nat.le_of_ble_eq_true rfl) rfl ?_
      refine tops_nil ?_
      refine twp_norm [2, 3, 6, 7] (sub_d rfl (sub_mptr rfl (sub_mptr rfl (sub_mptr rfl .nil)))) (blk_box rfl (blk_box rfl (blk_box rfl (blk_flat rfl (blk_flat rfl (blk_boxN rfl (by repeat (first | exact NormC.nil rfl | apply nc_d rfl | apply nc_msl rfl | apply nc_mptr rfl | apply nc_fnc rfl)) (blk_nil rfl))))))) ?_
      refine twp_seq ?_
      refine twp_rseq ?_
      refine s_rd _ rfl (fieldAddr_mptr rfl fld25_1 rfl rfl) ?_
      refine s_rd _ rfl (by first | exact load_box_d rfl lay3 rfl rfl rfl | exact load_box rfl lay3 rfl rfl rfl) ?_
      refine s_rd _ rfl (mv_d (.inl rfl) rfl) ?_
      refine tops_nil ?_
      refine twp_norm [2, 3, 6, 7, 29, 30] (sub_d rfl (sub_mptr rfl (sub_mptr rfl (sub_mptr rfl (sub_d rfl (sub_d rfl .nil)))))) (blk_box rfl (blk_box rfl (blk_box rfl (blk_flat rfl (blk_flat rfl (blk_box rfl (blk_nil rfl))))))) ?_
      refine twp_block ?_
      refine twp_whileK (fun i => ([(30, .d (.int .i64 ((i : Nat) : Int)))] : Fr)) (fun i => ([(3, .flat 4 1 ((inVars ins m.vars i).map D.bool))] : List (Nat × Blk))) (fun i => i ≤ p.inputs.toNat) (fun i => p.inputs.toNat - i) [30] [2, 3, 6, 7, 29] [0, 1, 2, 3, 4, 5] 0 (by decide) (fun i hi => absurd hi (Nat.not_lt_zero i)) (Nat.zero_le _) (sub_d rfl (sub_mptr rfl (sub_mptr rfl (sub_mptr rfl (sub_d rfl .nil))))) rfl rfl (blk_box rfl (blk_box rfl (blk_box rfl (blk_flat rfl (blk_flat rfl (blk_box rfl (blk_nil rfl))))))) (by rw [inVars_zero]; rfl) ?_
      rintro i hok
      refine twp_norm [30, 2, 3, 6, 7, 29] (sub_d rfl (sub_d rfl (sub_mptr rfl (sub_mptr rfl (sub_mptr rfl (sub_d rfl .nil)))))) (blk_box rfl (blk_box rfl (blk_box rfl (blk_flat rfl (blk_flat rfl (blk_box rfl (blk_nil rfl))))))) ?_
      refine twp_rseq ?_
      refine s_rd _ rfl (cmp_int rfl rfl rfl rfl) ?_
      refine tops_nil ?_
      refine twp_norm [2, 3, 6, 7, 29, 30, 31] (sub_d rfl (sub_mptr rfl (sub_mptr rfl (sub_mptr rfl (sub_d rfl (sub_d rfl (sub_d rfl .nil))))))) (blk_box rfl (blk_box rfl (blk_box rfl (blk_flat rfl (blk_flat rfl (blk_box rfl (blk_nil rfl))))))) ?_
      refine twp_seq ?_
      refine twp_cond _ rfl (fun hlt => ?_) (fun hlt => ?_)
      · have hlt : i < p.inputs.toNat := by simp at hlt; omega
        obtain ⟨b, hb⟩ := get_lt (xs := inVars ins m.vars i) (i := i) (by rw [inVars_length]; omega)
        have hset := congrArg (List.map D.bool) (inVars_set ins m.vars i)
        rw [List.map_set] at hset
        refine twp_skip ?_
        refine way_then ?_
        refine twp_norm [2, 3, 6, 7, 29, 30] (sub_d rfl (sub_mptr rfl (sub_mptr rfl (sub_mptr rfl (sub_d rfl (sub_d rfl .nil)))))) (blk_box rfl (blk_box rfl (blk_box rfl (blk_flat rfl (blk_flat rfl (blk_box rfl (blk_nil rfl))))))) ?_
        refine twp_seq ?_
        refine twp_block ?_
        refine twp_rseq ?_
        refine s_rd _ rfl (mv_d (.inl rfl) rfl) ?_
        refine s_rd _ rfl (mv_d (.inr rfl) rfl) ?_
        refine tops_nil ?_
        refine twp_norm [2, 3, 6, 7, 8, 29, 30] (sub_d rfl (sub_mptr rfl (sub_mptr rfl (sub_mptr rfl (sub_d rfl (sub_d rfl (sub_d rfl .nil))))))) (blk_box rfl (blk_box rfl (blk_box rfl (blk_flat rfl (blk_flat rfl (blk_box rfl (blk_nil rfl))))))) ?_
        refine twp_draw follows  ?_
        refine d_rd [] _ rfl rfl (fieldAddr_mptr rfl fld34_0 rfl rfl) ?_
        first | refine d_rd [] _ rfl rfl (by first | exact load_box_d rfl lay31 rfl rfl rfl | exact load_box rfl lay31 rfl rfl rfl) ?_ | refine d_rd [0] _ rfl rfl (by first | exact load_box_d rfl lay31 rfl rfl rfl | exact load_box rfl lay31 rfl rfl rfl) ?_ | refine d_rd [1] _ rfl rfl (by first | exact load_box_d rfl lay31 rfl rfl rfl | exact load_box rfl lay31 rfl rfl rfl) ?_ | refine d_rd [3] _ rfl rfl (by first | exact load_box_d rfl lay31 rfl rfl rfl | exact load_box rfl lay31 rfl rfl rfl) ?_ | refine d_rd [4] _ rfl rfl (by first | exact load_box_d rfl lay31 rfl rfl rfl | exact load_box rfl lay31 rfl rfl rfl) ?_ | refine d_rd [5] _ rfl rfl (by first | exact load_box_d rfl lay31 rfl rfl rfl | exact load_box rfl lay31 rfl rfl rfl) ?_ | refine d_rd [6] _ rfl rfl (by first | exact load_box_d rfl lay31 rfl rfl rfl | exact load_box rfl lay31 rfl rfl rfl) ?_
        refine d_rd [] _ rfl rfl (mv_d (.inl rfl) rfl) ?_
        refine d_rd [] _ rfl rfl (mv_d (.inl rfl) rfl) ?_
        refine d_rd [] _ rfl rfl (mv_d (.inl rfl) rfl) ?_
        first | refine d_rd [] _ rfl rfl (by first | exact len_d rfl sel31 rfl (by first | exact List.length_map _ | rfl) | exact len_nil rfl sel31 rfl) ?_ | refine d_rd [0] _ rfl rfl (by first | exact len_d rfl sel31 rfl (by first | exact List.length_map _ | rfl) | exact len_nil rfl sel31 rfl) ?_ | refine d_rd [1] _ rfl rfl (by first | exact len_d rfl sel31 rfl (by first | exact List.length_map _ | rfl) | exact len_nil rfl sel31 rfl) ?_ | refine d_rd [3] _ rfl rfl (by first | exact len_d rfl sel31 rfl (by first | exact List.length_map _ | rfl) | exact len_nil rfl sel31 rfl) ?_ | refine d_rd [4] _ rfl rfl (by first | exact len_d rfl sel31 rfl (by first | exact List.length_map _ | rfl) | exact len_nil rfl sel31 rfl) ?_ | refine d_rd [5] _ rfl rfl (by first | exact len_d rfl sel31 rfl (by first | exact List.length_map _ | rfl) | exact len_nil rfl sel31 rfl) ?_ | refine d_rd [6] _ rfl rfl (by first | exact len_d rfl sel31 rfl (by first | exact List.length_map _ | rfl) | exact len_nil rfl sel31 rfl) ?_
        refine d_rd [] _ rfl rfl (cmp_int rfl rfl rfl rfl) ?_
        refine d_rd [] _ rfl rfl (mv_d (.inl rfl) rfl) ?_
        refine d_split 40 rfl (fun hg => ?_) (fun hg => ?_)
        · have hs40 := hg
          have hg2 : i < ins.length := by simpa using hg
          obtain ⟨b2, hb2⟩ := get_lt hg2
          have hgd : ins.getD i false = b2 := by rw [List.getD_eq_getElem?_getD, hb2]; rfl
          have hE : ((inVars ins m.vars i).map D.bool).set i (D.bool b2) = (inVars ins m.vars (i + 1)).map D.bool := by rw [← hset, hgd]
          refine d_rd [] _ rfl (on_yes rfl rfl rfl hs40) (mv_d (.inl rfl) rfl) ?_
          refine d_rd [] _ rfl (on_yes rfl rfl rfl hs40) (mv_d (.inl rfl) rfl) ?_
          refine d_rd [] _ rfl (on_yes rfl rfl rfl hs40) (index_sl rfl sel31 rfl rfl (idx_map hb2)) ?_
          first | refine d_rd [] _ rfl (on_yes rfl rfl rfl hs40) (load_ptr rfl lay4 rfl rfl) ?_ | refine d_rd [0] _ rfl (on_yes rfl rfl rfl hs40) (load_ptr rfl lay4 rfl rfl) ?_ | refine d_rd [1] _ rfl (on_yes rfl rfl rfl hs40) (load_ptr rfl lay4 rfl rfl) ?_ | refine d_rd [3] _ rfl (on_yes rfl rfl rfl hs40) (load_ptr rfl lay4 rfl rfl) ?_ | refine d_rd [4] _ rfl (on_yes rfl rfl rfl hs40) (load_ptr rfl lay4 rfl rfl) ?_ | refine d_rd [5] _ rfl (on_yes rfl rfl rfl hs40) (load_ptr rfl lay4 rfl rfl) ?_ | refine d_rd [6] _ rfl (on_yes rfl rfl rfl hs40) (load_ptr rfl lay4 rfl rfl) ?_
          refine d_rd [] _ rfl rfl (pickh_T rfl rfl hs40 rfl) ?_
          refine d_rd [] _ rfl rfl (by first | exact index_msl0 rfl sel31 rfl rfl (by omega) | exact index_sl rfl sel31 rfl rfl (by first | exact ⟨by omega, by assumption⟩ | exact idx_map (by assumption) | exact idx_id (by assumption))) ?_
          refine d_tail ?_ (by kernel_rfl)
          first
            | refine s_store_box lay4 rfl rfl rfl rfl rfl (Nat.le_of_ble_eq_true rfl) rfl ?_
            | refine s_store_flat (e' := D.bool _) lay4 rfl rfl rfl rfl (by rw [List.getElem?_map, hb]; rfl) (by first | exact .inl rfl | exact .inr rfl) (Nat.le_of_ble_eq_true rfl) rfl ?_
          refine tops_nil ?_
          refine way_block ?_
          refine way_then ?_
          refine twp_norm [2, 3, 6, 7, 29, 30] (sub_d rfl (sub_mptr rfl (sub_mptr rfl (sub_mptr rfl (sub_d rfl (sub_d rfl .nil)))))) (blk_boxN rfl (by repeat (first | exact NormC.nil rfl | apply nc_d rfl | apply nc_msl rfl | apply nc_mptr rfl | apply nc_fnc rfl)) (blk_boxN rfl (by repeat (first | exact NormC.nil rfl | apply nc_d rfl | apply nc_msl rfl | apply nc_mptr rfl | apply nc_fnc rfl)) (blk_boxN rfl (by repeat (first | exact NormC.nil rfl | apply nc_d rfl | apply nc_msl rfl | apply nc_mptr rfl | apply nc_fnc rfl)) (blk_flat rfl (blk_flat rfl (blk_boxN rfl (by repeat (first | exact NormC.nil rfl | apply nc_d rfl | apply nc_msl rfl | apply nc_mptr rfl | apply nc_fnc rfl)) (blk_nil rfl))))))) ?_
          refine twp_region ?_
          refine s_rd _ rfl (arith_ok rfl rfl rfl rfl (by omega)) ?_
          refine s_rd _ rfl (mv_d (.inl rfl) rfl) ?_
          refine tops_nil ?_
          refine way_then ?_
          exact ⟨(i + 1), [0, 1, 2, 3, 4, 5], by decide, (fun i hi => absurd hi (Nat.not_lt_zero i)), (by omega), (by omega), (by rw [hE]; rfl)⟩
        · have hs40 := hg
          have hgd : ins.getD i false = false := by rw [List.getD_eq_getElem?_getD, List.getElem?_eq_none (by simp at hg; omega)]; rfl
          have hE : ((inVars ins m.vars i).map D.bool).set i (D.bool false) = (inVars ins m.vars (i + 1)).map D.bool := by rw [← hset, hgd]
          refine d_skip rfl (on_no rfl rfl rfl hs40) ?_
          refine d_skip rfl (on_no rfl rfl rfl hs40) ?_
          refine d_skip rfl (on_no rfl rfl rfl hs40) ?_
          refine d_skip rfl (on_no rfl rfl rfl hs40) ?_
          refine d_rd [] _ rfl rfl (pickh_F rfl rfl hs40 rfl) ?_
          refine d_rd [] _ rfl rfl (by first | exact index_msl0 rfl sel31 rfl rfl (by omega) | exact index_sl rfl sel31 rfl rfl (by first | exact ⟨by omega, by assumption⟩ | exact idx_map (by assumption) | exact idx_id (by assumption))) ?_
          refine d_tail ?_ (by kernel_rfl)
          first
            | refine s_store_box lay4 rfl rfl rfl rfl rfl (Nat.le_of_ble_eq_true rfl) rfl ?_
            | refine s_store_flat (e' := D.bool _) lay4 rfl rfl rfl rfl (by rw [List.getElem?_map, hb]; rfl) (by first | exact .inl rfl | exact .inr rfl) (Nat.le_of_ble_eq_true rfl) rfl ?_
          refine tops_nil ?_
          refine way_block ?_
          refine way_then ?_
          refine twp_norm [2, 3, 6, 7, 29, 30] (sub_d rfl (sub_mptr rfl (sub_mptr rfl (sub_mptr rfl (sub_d rfl (sub_d rfl .nil)))))) (blk_boxN rfl (by repeat (first | exact NormC.nil rfl | apply nc_d rfl | apply nc_msl rfl | apply nc_mptr rfl | apply nc_fnc rfl)) (blk_boxN rfl (by repeat (first | exact NormC.nil rfl | apply nc_d rfl | apply nc_msl rfl | apply nc_mptr rfl | apply nc_fnc rfl)) (blk_boxN rfl (by repeat (first | exact NormC.nil rfl | apply nc_d rfl | apply nc_msl rfl | apply nc_mptr rfl | apply nc_fnc rfl)) (blk_flat rfl (blk_flat rfl (blk_boxN rfl (by repeat (first | exact NormC.nil rfl | apply nc_d rfl | apply nc_msl rfl | apply nc_mptr rfl | apply nc_fnc rfl)) (blk_nil rfl))))))) ?_
          refine twp_region ?_
          refine s_rd _ rfl (arith_ok rfl rfl rfl rfl (by omega)) ?_
          refine s_rd _ rfl (mv_d (.inl rfl) rfl) ?_
          refine tops_nil ?_
          refine way_then ?_
          exact ⟨(i + 1), [0, 1, 2, 3, 4, 5], by decide, (fun i hi => absurd hi (Nat.not_lt_zero i)), (by omega), (by omega), (by rw [hE]; rfl)⟩
      · have hge : ¬ i < p.inputs.toNat := by simp at hlt; omega
        have hi : i = p.inputs.toNat := by omega
        subst hi
        refine twp_exit ?_
        refine way_thenExit ?_
        refine way_thenExit ?_
        refine way_here ?_
        refine way_then ?_
        refine twp_norm [3, 6, 7] (sub_mptr rfl (sub_mptr rfl (sub_mptr rfl .nil))) (blk_box rfl (blk_box rfl (blk_box rfl (blk_flat rfl (blk_flat rfl (blk_box rfl (blk_nil rfl))))))) ?_
        refine twp_seq ?_
        refine twp_rseq ?_
        refine s_rd _ rfl (fieldAddr_mptr rfl fld25_2 rfl rfl) ?_
        refine s_rd _ rfl (by first | exact load_box_d rfl lay23 rfl rfl rfl | exact load_box rfl lay23 rfl rfl rfl) ?_
        refine s_rd _ rfl (by first | exact len_d rfl sel23 rfl (by first | exact List.length_map _ | rfl) | exact len_msl rfl sel23 rfl | exact len_nil rfl sel23 rfl) ?_
        refine s_rd _ rfl (mv_d (.inl rfl) rfl) ?_
        refine tops_nil ?_
        refine twp_norm [6, 7, 49, 50, 51] (by repeat (first | exact SubK.nil | apply sub_d rfl | apply sub_msl rfl | apply sub_mptr rfl | apply SubK.cons _ _ _ _ rfl)) (blk_box rfl (blk_box rfl (blk_box rfl (blk_flat rfl (blk_flat rfl (blk_box rfl (blk_nil rfl))))))) ?_
        refine twp_block ?_
        refine twp_whileK (fun i => ([(51, .d (.int .i64 ((i : Nat) : Int)))] : Fr)) (fun i => ([(3, .flat 4 1 ((scanTo p.rungs (inVars ins m.vars p.inputs.toNat) m.counts i).1.map D.bool)), (4, .flat 3 1 ((scanTo p.rungs (inVars ins m.vars p.inputs.toNat) m.counts i).2.map (D.int .i64)))] : List (Nat × Blk))) (fun i => i ≤ p.rungs.length) (fun i => p.rungs.length - i) [51] [6, 7, 49, 50] [0, 1, 2, 3, 4, 5] 0 (by decide) (fun i hi => absurd hi (Nat.not_lt_zero i)) (Nat.zero_le _) (by repeat (first | exact SubK.nil | apply sub_d rfl | apply sub_msl rfl | apply sub_mptr rfl | apply SubK.cons _ _ _ _ rfl)) rfl rfl (blk_box rfl (blk_box rfl (blk_box rfl (blk_flat rfl (blk_flat rfl (blk_box rfl (blk_nil rfl))))))) rfl ?_
        rintro i hok
        refine twp_norm [51, 6, 7, 49, 50] (by repeat (first | exact SubK.nil | apply sub_d rfl | apply sub_msl rfl | apply sub_mptr rfl | apply SubK.cons _ _ _ _ rfl)) (blk_box rfl (blk_box rfl (blk_box rfl (blk_flat rfl (blk_flat rfl (blk_box rfl (blk_nil rfl))))))) ?_
        refine twp_rseq ?_
        refine s_rd _ rfl (cmp_int rfl rfl rfl rfl) ?_
        refine tops_nil ?_
        refine twp_norm [6, 7, 49, 50, 51, 52] (by repeat (first | exact SubK.nil | apply sub_d rfl | apply sub_msl rfl | apply sub_mptr rfl | apply SubK.cons _ _ _ _ rfl)) (blk_box rfl (blk_box rfl (blk_box rfl (blk_flat rfl (blk_flat rfl (blk_box rfl (blk_nil rfl))))))) ?_
        refine twp_seq ?_
        refine twp_cond _ rfl (fun hlt => ?_) (fun hlt => ?_)
        · have hlt : i < p.rungs.length := by simpa using hlt
          obtain ⟨r, hr⟩ : ∃ x, (p.rungs)[i]? = some x := ⟨_, List.getElem?_eq_getElem (by first | exact hlt | omega | (simp; omega))⟩
          have hrw := hp.rung r (List.mem_of_getElem? hr)
          obtain ⟨hv0, hv1⟩ := Prg.right_var (hright r (List.mem_of_getElem? hr)) hi0
          obtain ⟨c, hc⟩ := get_lt (xs := m.counts) (i := i) (by omega)
          obtain ⟨hc0, hc1⟩ := hbd i c r hc hr
          have hcw : I64 c := hm.count c (List.mem_of_getElem? hc)
          have hnow := scanTo_now (rs := p.rungs) (vs := inVars ins m.vars p.inputs.toNat) hc
          have hcg : (scanTo p.rungs (inVars ins m.vars p.inputs.toNat) m.counts i).2[i]? = some c := by rw [scanTo_later _ _ _ i i (Nat.le_refl _)]; exact hc
          have hvlen : (scanTo p.rungs (inVars ins m.vars p.inputs.toNat) m.counts i).1.length = m.vars.length := by rw [scanTo_len1, inVars_length]
          have hclen := scanTo_len2 p.rungs (inVars ins m.vars p.inputs.toNat) m.counts i
          obtain ⟨b, hb⟩ := get_lt (xs := (scanTo p.rungs (inVars ins m.vars p.inputs.toNat) m.counts i).1) (i := r.var.toNat) (by omega)
          have hsucc := scanTo_succ (vs := inVars ins m.vars p.inputs.toNat) (cs := m.counts) hr
          rw [hnow] at hsucc
          have hE1 : ((scanTo p.rungs (inVars ins m.vars p.inputs.toNat) m.counts i).1.map D.bool).set r.var.toNat (D.bool (r.tick c (r.expr.eval (scanTo p.rungs (inVars ins m.vars p.inputs.toNat) m.counts i).1)).2) = (scanTo p.rungs (inVars ins m.vars p.inputs.toNat) m.counts (i + 1)).1.map D.bool := by rw [hsucc]; simp [List.map_set]
          have hE2 : ((scanTo p.rungs (inVars ins m.vars p.inputs.toNat) m.counts i).2.map (D.int .i64)).set i (D.int .i64 (r.tick c (r.expr.eval (scanTo p.rungs (inVars ins m.vars p.inputs.toNat) m.counts i).1)).1) = (scanTo p.rungs (inVars ins m.vars p.inputs.toNat) m.counts (i + 1)).2.map (D.int .i64) := by rw [hsucc]; simp [List.map_set]
          refine twp_skip ?_
          refine way_then ?_
          refine twp_norm [6, 7, 49, 50, 51] (by repeat (first | exact SubK.nil | apply sub_d rfl | apply sub_msl rfl | apply sub_mptr rfl | apply SubK.cons _ _ _ _ rfl)) (blk_box rfl (blk_box rfl (blk_box rfl (blk_flat rfl (blk_flat rfl (blk_box rfl (blk_nil rfl))))))) ?_
          refine twp_seq ?_
          refine twp_block ?_
          refine twp_rseq ?_
          refine s_rd _ rfl (mv_d (.inl rfl) rfl) ?_
          refine s_rd _ rfl (by first | exact index_msl0 rfl sel23 rfl rfl (by first | assumption | omega | (simp; omega)) | exact index_sl rfl sel23 rfl rfl (by first | exact ⟨by omega, by assumption⟩ | exact idx_map (by assumption) | exact idx_id (by assumption))) ?_
          refine s_rd _ rfl (by first | exact load_ptrW rfl lay50 rfl rfl rfl | exact load_flatW rfl lay50 rfl rfl (by first | rfl | assumption | (simp only [List.getElem?_map, Option.map_some, *]; done)) rfl rfl | exact load_boxA_d rfl lay50 rfl rfl (Nat.le_of_ble_eq_true rfl) rfl | exact load_boxA rfl lay50 rfl rfl (Nat.le_of_ble_eq_true rfl) rfl | exact load_ptrA rfl lay50 rfl (Nat.le_of_ble_eq_true rfl) rfl) ?_
          refine s_alloc rfl zero50 rfl rfl ?_
          refine s_eq 10 (.mptr 6 0 0 0) rfl rfl ?_
          refine s_rd _ rfl (mv_d (.inr rfl) rfl) ?_
          refine s_store_box lay50 rfl rfl rfl rfl rfl (Nat.le_of_ble_eq_true rfl) rfl ?_
          refine tops_nil ?_
          refine twp_norm [6, 7, 9, 10, 49, 50, 51] (by repeat (first | exact SubK.nil | apply sub_d rfl | apply sub_msl rfl | apply sub_mptr rfl | apply SubK.cons _ _ _ _ rfl)) (blk_box rfl (blk_box rfl (blk_box rfl (blk_flat rfl (blk_flat rfl (blk_box rfl (blk_boxN rfl (by repeat (first | exact NormC.nil rfl | apply nc_d rfl | apply nc_msl rfl | apply nc_mptr rfl | apply nc_fnc rfl)) (blk_nil rfl)))))))) ?_
          refine twp_draw follows  ?_
          obtain ⟨F, cs, hfn, hrt⟩ := eff_t r c (r.expr.eval (scanTo p.rungs (inVars ins m.vars p.inputs.toNat) m.counts i).1) hcw hrw
          refine d_rd [] _ rfl rfl (fieldAddr_mptr rfl fld34_1 rfl rfl) ?_
          first | refine d_rd [] _ rfl rfl (by first | exact load_box_d rfl lay32 rfl rfl rfl | exact load_box rfl lay32 rfl rfl rfl) ?_ | refine d_rd [0] _ rfl rfl (by first | exact load_box_d rfl lay32 rfl rfl rfl | exact load_box rfl lay32 rfl rfl rfl) ?_ | refine d_rd [1] _ rfl rfl (by first | exact load_box_d rfl lay32 rfl rfl rfl | exact load_box rfl lay32 rfl rfl rfl) ?_ | refine d_rd [3] _ rfl rfl (by first | exact load_box_d rfl lay32 rfl rfl rfl | exact load_box rfl lay32 rfl rfl rfl) ?_ | refine d_rd [4] _ rfl rfl (by first | exact load_box_d rfl lay32 rfl rfl rfl | exact load_box rfl lay32 rfl rfl rfl) ?_ | refine d_rd [5] _ rfl rfl (by first | exact load_box_d rfl lay32 rfl rfl rfl | exact load_box rfl lay32 rfl rfl rfl) ?_ | refine d_rd [6] _ rfl rfl (by first | exact load_box_d rfl lay32 rfl rfl rfl | exact load_box rfl lay32 rfl rfl rfl) ?_
          refine d_rd [] _ rfl rfl (mv_d (.inl rfl) rfl) ?_
          refine d_rd [] _ rfl rfl (fieldAddr_mptr rfl fld34_0 rfl rfl) ?_
          first | refine d_rd [] _ rfl rfl (by first | exact load_box_d rfl lay31 rfl rfl rfl | exact load_box rfl lay31 rfl rfl rfl) ?_ | refine d_rd [0] _ rfl rfl (by first | exact load_box_d rfl lay31 rfl rfl rfl | exact load_box rfl lay31 rfl rfl rfl) ?_ | refine d_rd [1] _ rfl rfl (by first | exact load_box_d rfl lay31 rfl rfl rfl | exact load_box rfl lay31 rfl rfl rfl) ?_ | refine d_rd [3] _ rfl rfl (by first | exact load_box_d rfl lay31 rfl rfl rfl | exact load_box rfl lay31 rfl rfl rfl) ?_ | refine d_rd [4] _ rfl rfl (by first | exact load_box_d rfl lay31 rfl rfl rfl | exact load_box rfl lay31 rfl rfl rfl) ?_ | refine d_rd [5] _ rfl rfl (by first | exact load_box_d rfl lay31 rfl rfl rfl | exact load_box rfl lay31 rfl rfl rfl) ?_ | refine d_rd [6] _ rfl rfl (by first | exact load_box_d rfl lay31 rfl rfl rfl | exact load_box rfl lay31 rfl rfl rfl) ?_
          refine d_rd [] _ rfl rfl (fieldAddr_mptr rfl fld50_1 rfl rfl) ?_
          first | refine d_rd [] _ rfl rfl (by first | exact load_box_d rfl lay3 rfl rfl rfl | exact load_box rfl lay3 rfl rfl rfl) ?_ | refine d_rd [0] _ rfl rfl (by first | exact load_box_d rfl lay3 rfl rfl rfl | exact load_box rfl lay3 rfl rfl rfl) ?_ | refine d_rd [1] _ rfl rfl (by first | exact load_box_d rfl lay3 rfl rfl rfl | exact load_box rfl lay3 rfl rfl rfl) ?_ | refine d_rd [3] _ rfl rfl (by first | exact load_box_d rfl lay3 rfl rfl rfl | exact load_box rfl lay3 rfl rfl rfl) ?_ | refine d_rd [4] _ rfl rfl (by first | exact load_box_d rfl lay3 rfl rfl rfl | exact load_box rfl lay3 rfl rfl rfl) ?_ | refine d_rd [5] _ rfl rfl (by first | exact load_box_d rfl lay3 rfl rfl rfl | exact load_box rfl lay3 rfl rfl rfl) ?_ | refine d_rd [6] _ rfl rfl (by first | exact load_box_d rfl lay3 rfl rfl rfl | exact load_box rfl lay3 rfl rfl rfl) ?_
          first | refine d_rd [] _ rfl rfl (by first | exact load_boxA_d rfl lay50 rfl rfl (Nat.le_of_ble_eq_true rfl) rfl | exact load_boxA rfl lay50 rfl rfl (Nat.le_of_ble_eq_true rfl) rfl) ?_ | refine d_rd [0] _ rfl rfl (by first | exact load_boxA_d rfl lay50 rfl rfl (Nat.le_of_ble_eq_true rfl) rfl | exact load_boxA rfl lay50 rfl rfl (Nat.le_of_ble_eq_true rfl) rfl) ?_ | refine d_rd [1] _ rfl rfl (by first | exact load_boxA_d rfl lay50 rfl rfl (Nat.le_of_ble_eq_true rfl) rfl | exact load_boxA rfl lay50 rfl rfl (Nat.le_of_ble_eq_true rfl) rfl) ?_ | refine d_rd [3] _ rfl rfl (by first | exact load_boxA_d rfl lay50 rfl rfl (Nat.le_of_ble_eq_true rfl) rfl | exact load_boxA rfl lay50 rfl rfl (Nat.le_of_ble_eq_true rfl) rfl) ?_ | refine d_rd [4] _ rfl rfl (by first | exact load_boxA_d rfl lay50 rfl rfl (Nat.le_of_ble_eq_true rfl) rfl | exact load_boxA rfl lay50 rfl rfl (Nat.le_of_ble_eq_true rfl) rfl) ?_ | refine d_rd [5] _ rfl rfl (by first | exact load_boxA_d rfl lay50 rfl rfl (Nat.le_of_ble_eq_true rfl) rfl | exact load_boxA rfl lay50 rfl rfl (Nat.le_of_ble_eq_true rfl) rfl) ?_ | refine d_rd [6] _ rfl rfl (by first | exact load_boxA_d rfl lay50 rfl rfl (Nat.le_of_ble_eq_true rfl) rfl | exact load_boxA rfl lay50 rfl rfl (Nat.le_of_ble_eq_true rfl) rfl) ?_
          first | refine d_rd [] _ rfl rfl (rd_callRD rfl rfl rfl (effOf_d r)) ?_ | refine d_rd [0] _ rfl rfl (rd_callRD rfl rfl rfl (effOf_d r)) ?_ | refine d_rd [1] _ rfl rfl (rd_callRD rfl rfl rfl (effOf_d r)) ?_ | refine d_rd [3] _ rfl rfl (rd_callRD rfl rfl rfl (effOf_d r)) ?_ | refine d_rd [4] _ rfl rfl (rd_callRD rfl rfl rfl (effOf_d r)) ?_ | refine d_rd [5] _ rfl rfl (rd_callRD rfl rfl rfl (effOf_d r)) ?_ | refine d_rd [6] _ rfl rfl (rd_callRD rfl rfl rfl (effOf_d r)) ?_
          refine d_rd [] _ rfl rfl (by first | exact rd_fieldvD rfl fldv62_0 rfl rfl rfl | exact rd_fieldv rfl fldv62_0 rfl rfl rfl) ?_
          refine d_rd [] _ rfl rfl (fieldAddr_mptr rfl fld34_1 rfl rfl) ?_
          first | refine d_rd [] _ rfl rfl (by first | exact load_box_d rfl lay32 rfl rfl rfl | exact load_box rfl lay32 rfl rfl rfl) ?_ | refine d_rd [0] _ rfl rfl (by first | exact load_box_d rfl lay32 rfl rfl rfl | exact load_box rfl lay32 rfl rfl rfl) ?_ | refine d_rd [1] _ rfl rfl (by first | exact load_box_d rfl lay32 rfl rfl rfl | exact load_box rfl lay32 rfl rfl rfl) ?_ | refine d_rd [3] _ rfl rfl (by first | exact load_box_d rfl lay32 rfl rfl rfl | exact load_box rfl lay32 rfl rfl rfl) ?_ | refine d_rd [4] _ rfl rfl (by first | exact load_box_d rfl lay32 rfl rfl rfl | exact load_box rfl lay32 rfl rfl rfl) ?_ | refine d_rd [5] _ rfl rfl (by first | exact load_box_d rfl lay32 rfl rfl rfl | exact load_box rfl lay32 rfl rfl rfl) ?_ | refine d_rd [6] _ rfl rfl (by first | exact load_box_d rfl lay32 rfl rfl rfl | exact load_box rfl lay32 rfl rfl rfl) ?_
          refine d_rd [] _ rfl rfl (mv_d (.inl rfl) rfl) ?_
          refine d_rd [] _ rfl rfl (by first | exact index_msl0 rfl sel32 rfl rfl (by omega) | exact index_sl rfl sel32 rfl rfl (by first | exact ⟨by omega, by assumption⟩ | exact idx_map (by assumption) | exact idx_id (by assumption))) ?_
          first | refine d_rd [] _ rfl rfl (by first | exact load_ptr rfl lay3 rfl rfl | exact load_flat rfl lay3 rfl rfl ((by rw [List.getElem?_map, hcg]; rfl)) rfl | exact load_box_d rfl lay3 rfl rfl rfl | exact load_box rfl lay3 rfl rfl rfl) ?_ | refine d_rd [0] _ rfl rfl (by first | exact load_ptr rfl lay3 rfl rfl | exact load_flat rfl lay3 rfl rfl ((by rw [List.getElem?_map, hcg]; rfl)) rfl | exact load_box_d rfl lay3 rfl rfl rfl | exact load_box rfl lay3 rfl rfl rfl) ?_ | refine d_rd [1] _ rfl rfl (by first | exact load_ptr rfl lay3 rfl rfl | exact load_flat rfl lay3 rfl rfl ((by rw [List.getElem?_map, hcg]; rfl)) rfl | exact load_box_d rfl lay3 rfl rfl rfl | exact load_box rfl lay3 rfl rfl rfl) ?_ | refine d_rd [3] _ rfl rfl (by first | exact load_ptr rfl lay3 rfl rfl | exact load_flat rfl lay3 rfl rfl ((by rw [List.getElem?_map, hcg]; rfl)) rfl | exact load_box_d rfl lay3 rfl rfl rfl | exact load_box rfl lay3 rfl rfl rfl) ?_ | refine d_rd [4] _ rfl rfl (by first | exact load_ptr rfl lay3 rfl rfl | exact load_flat rfl lay3 rfl rfl ((by rw [List.getElem?_map, hcg]; rfl)) rfl | exact load_box_d rfl lay3 rfl rfl rfl | exact load_box rfl lay3 rfl rfl rfl) ?_ | refine d_rd [5] _ rfl rfl (by first | exact load_ptr rfl lay3 rfl rfl | exact load_flat rfl lay3 rfl rfl ((by rw [List.getElem?_map, hcg]; rfl)) rfl | exact load_box_d rfl lay3 rfl rfl rfl | exact load_box rfl lay3 rfl rfl rfl) ?_ | refine d_rd [6] _ rfl rfl (by first | exact load_ptr rfl lay3 rfl rfl | exact load_flat rfl lay3 rfl rfl ((by rw [List.getElem?_map, hcg]; rfl)) rfl | exact load_box_d rfl lay3 rfl rfl rfl | exact load_box rfl lay3 rfl rfl rfl) ?_
          refine d_rd [] _ rfl rfl (fieldAddr_mptr rfl fld50_3 rfl rfl) ?_
          first | refine d_rd [] _ rfl rfl (by first | exact load_boxA_d rfl lay47 rfl rfl (Nat.le_of_ble_eq_true rfl) rfl | exact load_boxA rfl lay47 rfl rfl (Nat.le_of_ble_eq_true rfl) rfl) ?_ | refine d_rd [0] _ rfl rfl (by first | exact load_boxA_d rfl lay47 rfl rfl (Nat.le_of_ble_eq_true rfl) rfl | exact load_boxA rfl lay47 rfl rfl (Nat.le_of_ble_eq_true rfl) rfl) ?_ | refine d_rd [1] _ rfl rfl (by first | exact load_boxA_d rfl lay47 rfl rfl (Nat.le_of_ble_eq_true rfl) rfl | exact load_boxA rfl lay47 rfl rfl (Nat.le_of_ble_eq_true rfl) rfl) ?_ | refine d_rd [3] _ rfl rfl (by first | exact load_boxA_d rfl lay47 rfl rfl (Nat.le_of_ble_eq_true rfl) rfl | exact load_boxA rfl lay47 rfl rfl (Nat.le_of_ble_eq_true rfl) rfl) ?_ | refine d_rd [4] _ rfl rfl (by first | exact load_boxA_d rfl lay47 rfl rfl (Nat.le_of_ble_eq_true rfl) rfl | exact load_boxA rfl lay47 rfl rfl (Nat.le_of_ble_eq_true rfl) rfl) ?_ | refine d_rd [5] _ rfl rfl (by first | exact load_boxA_d rfl lay47 rfl rfl (Nat.le_of_ble_eq_true rfl) rfl | exact load_boxA rfl lay47 rfl rfl (Nat.le_of_ble_eq_true rfl) rfl) ?_ | refine d_rd [6] _ rfl rfl (by first | exact load_boxA_d rfl lay47 rfl rfl (Nat.le_of_ble_eq_true rfl) rfl | exact load_boxA rfl lay47 rfl rfl (Nat.le_of_ble_eq_true rfl) rfl) ?_
          refine d_rd [] _ rfl rfl (fieldAddr_mptr rfl fld34_0 rfl rfl) ?_
          first | refine d_rd [] _ rfl rfl (by first | exact load_box_d rfl lay31 rfl rfl rfl | exact load_box rfl lay31 rfl rfl rfl) ?_ | refine d_rd [0] _ rfl rfl (by first | exact load_box_d rfl lay31 rfl rfl rfl | exact load_box rfl lay31 rfl rfl rfl) ?_ | refine d_rd [1] _ rfl rfl (by first | exact load_box_d rfl lay31 rfl rfl rfl | exact load_box rfl lay31 rfl rfl rfl) ?_ | refine d_rd [3] _ rfl rfl (by first | exact load_box_d rfl lay31 rfl rfl rfl | exact load_box rfl lay31 rfl rfl rfl) ?_ | refine d_rd [4] _ rfl rfl (by first | exact load_box_d rfl lay31 rfl rfl rfl | exact load_box rfl lay31 rfl rfl rfl) ?_ | refine d_rd [5] _ rfl rfl (by first | exact load_box_d rfl lay31 rfl rfl rfl | exact load_box rfl lay31 rfl rfl rfl) ?_ | refine d_rd [6] _ rfl rfl (by first | exact load_box_d rfl lay31 rfl rfl rfl | exact load_box rfl lay31 rfl rfl rfl) ?_
          first | refine d_rd [] _ rfl rfl (rd_callRN rfl rfl (snaps_cons (.d _) (snaps_cons (snap_full rfl (by rw [List.length_map]; exact hvlen.symm)) snaps_nil)) (evalP_n r.expr (scanTo p.rungs (inVars ins m.vars p.inputs.toNat) m.counts i).1 (by rw [hvlen]; exact hm.vars) hrw.expr)) ?_ | refine d_rd [0] _ rfl rfl (rd_callRN rfl rfl (snaps_cons (.d _) (snaps_cons (snap_full rfl (by rw [List.length_map]; exact hvlen.symm)) snaps_nil)) (evalP_n r.expr (scanTo p.rungs (inVars ins m.vars p.inputs.toNat) m.counts i).1 (by rw [hvlen]; exact hm.vars) hrw.expr)) ?_ | refine d_rd [1] _ rfl rfl (rd_callRN rfl rfl (snaps_cons (.d _) (snaps_cons (snap_full rfl (by rw [List.length_map]; exact hvlen.symm)) snaps_nil)) (evalP_n r.expr (scanTo p.rungs (inVars ins m.vars p.inputs.toNat) m.counts i).1 (by rw [hvlen]; exact hm.vars) hrw.expr)) ?_ | refine d_rd [3] _ rfl rfl (rd_callRN rfl rfl (snaps_cons (.d _) (snaps_cons (snap_full rfl (by rw [List.length_map]; exact hvlen.symm)) snaps_nil)) (evalP_n r.expr (scanTo p.rungs (inVars ins m.vars p.inputs.toNat) m.counts i).1 (by rw [hvlen]; exact hm.vars) hrw.expr)) ?_ | refine d_rd [4] _ rfl rfl (rd_callRN rfl rfl (snaps_cons (.d _) (snaps_cons (snap_full rfl (by rw [List.length_map]; exact hvlen.symm)) snaps_nil)) (evalP_n r.expr (scanTo p.rungs (inVars ins m.vars p.inputs.toNat) m.counts i).1 (by rw [hvlen]; exact hm.vars) hrw.expr)) ?_ | refine d_rd [5] _ rfl rfl (rd_callRN rfl rfl (snaps_cons (.d _) (snaps_cons (snap_full rfl (by rw [List.length_map]; exact hvlen.symm)) snaps_nil)) (evalP_n r.expr (scanTo p.rungs (inVars ins m.vars p.inputs.toNat) m.counts i).1 (by rw [hvlen]; exact hm.vars) hrw.expr)) ?_ | refine d_rd [6] _ rfl rfl (rd_callRN rfl rfl (snaps_cons (.d _) (snaps_cons (snap_full rfl (by rw [List.length_map]; exact hvlen.symm)) snaps_nil)) (evalP_n r.expr (scanTo p.rungs (inVars ins m.vars p.inputs.toNat) m.counts i).1 (by rw [hvlen]; exact hm.vars) hrw.expr)) ?_
          first | refine d_rd [] _ rfl rfl (rd_callCT (ds := [.int .i64 c, .bool (r.expr.eval (scanTo p.rungs (inVars ins m.vars p.inputs.toNat) m.counts i).1)]) rfl rfl hfn rfl hrt) ?_ | refine d_rd [0] _ rfl rfl (rd_callCT (ds := [.int .i64 c, .bool (r.expr.eval (scanTo p.rungs (inVars ins m.vars p.inputs.toNat) m.counts i).1)]) rfl rfl hfn rfl hrt) ?_ | refine d_rd [1] _ rfl rfl (rd_callCT (ds := [.int .i64 c, .bool (r.expr.eval (scanTo p.rungs (inVars ins m.vars p.inputs.toNat) m.counts i).1)]) rfl rfl hfn rfl hrt) ?_ | refine d_rd [3] _ rfl rfl (rd_callCT (ds := [.int .i64 c, .bool (r.expr.eval (scanTo p.rungs (inVars ins m.vars p.inputs.toNat) m.counts i).1)]) rfl rfl hfn rfl hrt) ?_ | refine d_rd [4] _ rfl rfl (rd_callCT (ds := [.int .i64 c, .bool (r.expr.eval (scanTo p.rungs (inVars ins m.vars p.inputs.toNat) m.counts i).1)]) rfl rfl hfn rfl hrt) ?_ | refine d_rd [5] _ rfl rfl (rd_callCT (ds := [.int .i64 c, .bool (r.expr.eval (scanTo p.rungs (inVars ins m.vars p.inputs.toNat) m.counts i).1)]) rfl rfl hfn rfl hrt) ?_ | refine d_rd [6] _ rfl rfl (rd_callCT (ds := [.int .i64 c, .bool (r.expr.eval (scanTo p.rungs (inVars ins m.vars p.inputs.toNat) m.counts i).1)]) rfl rfl hfn rfl hrt) ?_
          refine d_rd [] _ rfl rfl (by first | exact mv_d (.inl rfl) rfl | exact mv_msl (.inl rfl) rfl | exact mv_mptr (.inl rfl) rfl | exact mv_agg (.inl rfl) rfl | exact mv_tup (.inl rfl) rfl | exact mv_ifc (.inl rfl) rfl | exact mv_fnc (.inl rfl) rfl | exact mv_mmap (.inl rfl) rfl | exact rd_move (.inl rfl)) ?_
          refine d_rd [] _ rfl rfl (by first | exact extract_d rfl rfl rfl | exact extract_msl rfl rfl rfl | exact extract_any rfl rfl rfl) ?_
          refine d_rd [] _ rfl rfl (by first | exact extract_d rfl rfl rfl | exact extract_msl rfl rfl rfl | exact extract_any rfl rfl rfl) ?_
          refine d_rd [] _ rfl rfl (by first | exact index_msl0 rfl sel32 rfl rfl (by omega) | exact index_sl rfl sel32 rfl rfl (by first | exact ⟨by omega, by assumption⟩ | exact idx_map (by assumption) | exact idx_id (by assumption))) ?_
          refine d_st 100025 [4] _ rfl rfl (by first | exact w_store_box rfl rfl lay3 rfl rfl rfl rfl rfl (Nat.le_of_ble_eq_true rfl) rfl | exact w_store_flat (d' := D.int .i64 _) rfl rfl lay3 rfl rfl rfl rfl (by rw [List.getElem?_map, hcg]; rfl) (by first | exact .inl rfl | exact .inr rfl) (Nat.le_of_ble_eq_true rfl) rfl) ?_
          refine d_rd [] _ rfl rfl (index_msl rfl sel31 rfl rfl ⟨hv0, by omega⟩ (Nat.zero_add _)) ?_
          refine d_tail ?_ (by kernel_rfl)
          first
            | refine s_store_box lay4 rfl rfl rfl rfl rfl (Nat.le_of_ble_eq_true rfl) rfl ?_
            | refine s_store_flat (e' := D.bool _) lay4 rfl rfl rfl rfl (by rw [List.getElem?_map, hb]; rfl) (by first | exact .inl rfl | exact .inr rfl) (Nat.le_of_ble_eq_true rfl) rfl ?_
          refine tops_nil ?_
          refine way_block ?_
          refine way_then ?_
          refine twp_norm [6, 7, 49, 50, 51] (by repeat (first | exact SubK.nil | apply sub_d rfl | apply sub_msl rfl | apply sub_mptr rfl | apply SubK.cons _ _ _ _ rfl)) (blk_boxN rfl (by repeat (first | exact NormC.nil rfl | apply nc_d rfl | apply nc_msl rfl | apply nc_mptr rfl | apply nc_fnc rfl)) (blk_boxN rfl (by repeat (first | exact NormC.nil rfl | apply nc_d rfl | apply nc_msl rfl | apply nc_mptr rfl | apply nc_fnc rfl)) (blk_boxN rfl (by repeat (first | exact NormC.nil rfl | apply nc_d rfl | apply nc_msl rfl | apply nc_mptr rfl | apply nc_fnc rfl)) (blk_flat rfl (blk_flat rfl (blk_boxN rfl (by repeat (first | exact NormC.nil rfl | apply nc_d rfl | apply nc_msl rfl | apply nc_mptr rfl | apply nc_fnc rfl)) (blk_boxN rfl (by repeat (first | exact NormC.nil rfl | apply nc_d rfl | apply nc_msl rfl | apply nc_mptr rfl | apply nc_fnc rfl)) (blk_nil rfl)))))))) ?_
          refine twp_region ?_
          refine s_rd _ rfl (arith_ok rfl rfl rfl rfl (by omega)) ?_
          refine s_rd _ rfl (mv_d (.inl rfl) rfl) ?_
          refine tops_nil ?_
          refine way_then ?_
          exact ⟨(i + 1), [0, 1, 2, 3, 4, 5], by decide, (fun i hi => absurd hi (Nat.not_lt_zero i)), (by omega), (by omega), (by rw [hE1, hE2]; rfl)⟩
        · have hge : ¬ i < p.rungs.length := by simpa using hlt
          have hi : i = p.rungs.length := by omega
          subst hi
          refine twp_exit ?_
          refine way_thenExit ?_
          refine way_thenExit ?_
          refine way_here ?_
          refine way_then ?_
          refine twp_norm [6, 7] (sub_mptr rfl (sub_mptr rfl .nil)) (blk_box rfl (blk_box rfl (blk_box rfl (blk_flat rfl (blk_flat rfl (blk_box rfl (blk_nil rfl))))))) ?_
          refine twp_rseq ?_
          refine s_rd _ rfl (by first | exact load_boxA_d rfl lay34 rfl rfl (Nat.le_of_ble_eq_true rfl) rfl | exact load_boxA rfl lay34 rfl rfl (Nat.le_of_ble_eq_true rfl) rfl) ?_
          refine s_store_box lay34 rfl rfl rfl rfl rfl (Nat.le_of_ble_eq_true rfl) rfl ?_
          refine tops_nil ?_
          refine twp_norm [6] (sub_mptr rfl .nil) (blk_box rfl (blk_box rfl (blk_boxN rfl (by repeat (first | exact NormC.nil rfl | apply nc_d rfl | apply nc_msl rfl | apply nc_mptr rfl | apply nc_fnc rfl)) (blk_flat rfl (blk_flat rfl (blk_box rfl (blk_nil rfl))))))) ?_
          refine twp_ret ?_
          first
            | exact EndsS.cell _ lay34 rfl rfl rfl rfl ((Snap.d _).same (by unfold Prg.scan; rw [if_pos hbad]; first | done | rfl))
            | exact EndsS.cell _ lay34 rfl rfl rfl rfl ((snap_agg (.cons (snap_full rfl (by rw [List.length_map, scanTo_len1, inVars_length])) rfl (.cons (snap_full rfl (by rw [List.length_map, scanTo_len2])) rfl (.cons (.d _) rfl .nil)))).same (by unfold Prg.scan; rw [if_neg (by simp [hha, hfit])]; rfl))

theorem scanP_d (p : Prg) (m : Mch) (ins : List Bool) (hp : p.Wf) (hm : m.Wf) (hn : p.names.length ≤ 100000) (hr0 : p.rungs.length ≤ 100000) : RetD Try.prog 22 [p.enc, m.enc, bools ins] (p.scan m ins).enc := .of (mv := fun _ => false) (scanP_step p m ins hp hm hn hr0)

end Go.Proofs.Yteedddlipoonoaa
