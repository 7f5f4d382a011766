/- The check of a program, by the program and by the reference, walked. No condition. -/
import Derived.Test.YteedddlipoonoaaPlcD
import Derived.KernelRfl
set_option linter.unusedSimpArgs false
set_option linter.unusedVariables false
namespace Go.Proofs.Yteedddlipoonoaa
open Go Go.TL

theorem callB11 : callB Try.prog 11 = true := by kernel_rfl

theorem fld25_2 : fld Try.prog 25 2 = some 2 := by kernel_rfl

theorem lay23 : lay Try.prog 23 = some (false, 1) := by kernel_rfl

theorem sel23 : sel Try.prog 23 = some (50, 6, 64) := by kernel_rfl

theorem lay50 : lay Try.prog 50 = some (true, 6) := by kernel_rfl

theorem zero50 : (Try.prog.info? 50).bind (·.zero) = Option.some (Go.Value.agg #[Go.Value.int Go.IntKind.i64 0, Go.Value.int Go.IntKind.i64 0, Go.Value.int Go.IntKind.i64 0, Go.Value.int Go.IntKind.i64 0, Go.Value.int Go.IntKind.i64 0, Go.Value.slice Option.none 0 0]) := by kernel_rfl

theorem lay25 : lay Try.prog 25 = some (true, 3) := by kernel_rfl

theorem zero4 : (Try.prog.info? 4).bind (·.zero) = Option.some (Go.Value.bool Bool.false) := by kernel_rfl

theorem checkP_step (p : Prg) (hp : p.Wf) : Ret Try.prog 11 [] (fun _ => false) ([p.enc].map .d) (.d (.int .i64 p.check)) [] := by
  have hrl := hp.rungs
  refine ret_body callB11 Try.func11 rfl Try.ntmps11 rfl rfl (fun wX gX => ?_)
  refine twp_norm [0] (sub_d rfl .nil) (blk_nil rfl) ?_
  refine twp_rseq ?_
  refine s_boxA rfl rfl rfl ?_
  refine s_eq 1 (.mptr 0 0 0 0) rfl rfl ?_
  refine s_rd _ rfl (mv_d (.inr rfl) rfl) ?_
  refine tops_nil ?_
  refine twp_norm [1] (sub_mptr rfl .nil) (blk_boxN rfl (by repeat (first | exact NormC.nil rfl | apply nc_d rfl | apply nc_msl rfl | apply nc_mptr rfl | apply nc_fnc rfl)) (blk_nil rfl)) ?_
  refine twp_seq ?_
  refine twp_rseq ?_
  refine s_rd _ rfl (fieldAddr_mptr rfl fld25_0 rfl rfl) ?_
  refine s_rd _ rfl (by first | exact load_box_d rfl lay22 rfl rfl rfl | exact load_box rfl lay22 rfl rfl rfl) ?_
  refine s_rd _ rfl (by first | exact len_d rfl sel22 rfl (by first | exact List.length_map _ | rfl) | exact len_msl rfl sel22 rfl | exact len_nil rfl sel22 rfl) ?_
  refine s_rd _ rfl (cmp_int rfl rfl rfl rfl) ?_
  refine tops_nil ?_
  refine twp_norm [1, 11] (sub_mptr rfl (sub_d rfl .nil)) (blk_box rfl (blk_nil rfl)) ?_
  refine twp_cond _ rfl (fun hnl => ?_) (fun hnl => ?_)
  · refine twp_rseq ?_
    refine s_rd _ rfl (mv_d (.inr rfl) rfl) ?_
    refine tops_nil ?_
    refine twp_norm [2] (sub_d rfl .nil) (blk_box rfl (blk_nil rfl)) ?_
    refine twp_ret ?_
    refine way_thenRet ?_
    exact Ends.plainI _ rfl (by grind [Prg.check])
  · have hnl : p.names.length ≤ 2000 := by have := of_decide_eq_false hnl; omega
    refine twp_skip ?_
    refine way_then ?_
    refine twp_norm [1] (sub_mptr rfl .nil) (blk_box rfl (blk_nil rfl)) ?_
    refine twp_seq ?_
    refine twp_rseq ?_
    refine s_rd _ rfl (fieldAddr_mptr rfl fld25_1 rfl rfl) ?_
    refine s_rd _ rfl (by first | exact load_box_d rfl lay3 rfl rfl rfl | exact load_box rfl lay3 rfl rfl rfl) ?_
    refine s_rd _ rfl (cmp_int rfl rfl rfl rfl) ?_
    refine s_rd _ rfl (mv_d (.inl rfl) rfl) ?_
    refine s_split 15 rfl (fun hin => ?_) (fun hin => ?_)
    · refine s_no rfl rfl rfl rfl ?_
      refine s_no rfl rfl rfl rfl ?_
      refine s_no rfl rfl rfl rfl ?_
      refine s_no rfl rfl rfl rfl ?_
      refine s_no rfl rfl rfl rfl ?_
      refine s_no rfl rfl rfl rfl ?_
      refine s_rd _ rfl (by first | exact pick_Td rfl rfl rfl | exact pick_T rfl rfl rfl) ?_
      refine tops_nil ?_
      refine twp_norm [1, 22] (sub_mptr rfl (sub_d rfl .nil)) (blk_box rfl (blk_nil rfl)) ?_
      refine twp_cond true rfl (fun _ => ?_) (fun h => by cases h)
      refine twp_rseq ?_
      refine s_rd _ rfl (mv_d (.inr rfl) rfl) ?_
      refine tops_nil ?_
      refine twp_norm [2] (sub_d rfl .nil) (blk_box rfl (blk_nil rfl)) ?_
      refine twp_ret ?_
      refine way_thenRet ?_
      exact Ends.plainI _ rfl (by grind [Prg.check])
    · have hin : 0 ≤ p.inputs := by have := of_decide_eq_false hin; omega
      refine s_yes rfl rfl rfl ?_
      refine s_rd _ rfl (fieldAddr_mptr rfl fld25_1 rfl rfl) ?_
      refine s_yes rfl rfl rfl ?_
      refine s_rd _ rfl (by first | exact load_box_d rfl lay3 rfl rfl rfl | exact load_box rfl lay3 rfl rfl rfl) ?_
      refine s_yes rfl rfl rfl ?_
      refine s_rd _ rfl (fieldAddr_mptr rfl fld25_0 rfl rfl) ?_
      refine s_yes rfl rfl rfl ?_
      refine s_rd _ rfl (by first | exact load_box_d rfl lay22 rfl rfl rfl | exact load_box rfl lay22 rfl rfl rfl) ?_
      refine s_yes rfl rfl rfl ?_
      refine s_rd _ rfl (by first | exact len_d rfl sel22 rfl (by first | exact List.length_map _ | rfl) | exact len_msl rfl sel22 rfl | exact len_nil rfl sel22 rfl) ?_
      refine s_yes rfl rfl rfl ?_
      refine s_rd _ rfl (cmp_int rfl rfl rfl rfl) ?_
      refine s_rd _ rfl (by first | exact pick_Fd rfl rfl rfl | exact pick_F rfl rfl rfl) ?_
      refine tops_nil ?_
      refine twp_norm [1, 22] (sub_mptr rfl (sub_d rfl .nil)) (blk_box rfl (blk_nil rfl)) ?_
      refine twp_cond _ rfl (fun h3 => ?_) (fun h3 => ?_)
      · refine twp_rseq ?_
        refine s_rd _ rfl (mv_d (.inr rfl) rfl) ?_
        refine tops_nil ?_
        refine twp_norm [2] (sub_d rfl .nil) (blk_box rfl (blk_nil rfl)) ?_
        refine twp_ret ?_
        refine way_thenRet ?_
        exact Ends.plainI _ rfl (by grind [Prg.check])
      · refine twp_skip ?_
        refine way_then ?_
        refine twp_norm [1] (sub_mptr rfl .nil) (blk_box rfl (blk_nil rfl)) ?_
        refine twp_seq ?_
        refine twp_rseq ?_
        refine s_rd _ rfl (fieldAddr_mptr rfl fld25_2 rfl rfl) ?_
        refine s_rd _ rfl (by first | exact load_box_d rfl lay23 rfl rfl rfl | exact load_box rfl lay23 rfl rfl rfl) ?_
        refine s_rd _ rfl (by first | exact len_d rfl sel23 rfl (by first | exact List.length_map _ | rfl) | exact len_msl rfl sel23 rfl | exact len_nil rfl sel23 rfl) ?_
        refine s_rd _ rfl (mv_d (.inl rfl) rfl) ?_
        refine tops_nil ?_
        refine twp_norm [1, 24, 25, 26] (by repeat (first | exact SubK.nil | apply sub_d rfl | apply sub_msl rfl | apply sub_mptr rfl | apply SubK.cons _ _ _ _ rfl)) (blk_box rfl (blk_nil rfl)) ?_
        refine twp_block ?_
        refine twp_whileK (fun i => ([(26, .d (.int .i64 ((i : Nat) : Int)))] : Fr)) (fun i => ([] : List (Nat × Blk))) (fun i => i ≤ p.rungs.length ∧ (allTo p.right p.rungs i)) (fun i => p.rungs.length - i) [26] [1, 24, 25] [0] 0 (by decide) (fun i hi => absurd hi (Nat.not_lt_zero i)) ⟨Nat.zero_le _, allTo_zero⟩ (by repeat (first | exact SubK.nil | apply sub_d rfl | apply sub_msl rfl | apply sub_mptr rfl | apply SubK.cons _ _ _ _ rfl)) rfl rfl (blk_box rfl (blk_nil rfl)) rfl ?_
        rintro i ⟨hok, hinv⟩
        refine twp_norm [26, 1, 24, 25] (by repeat (first | exact SubK.nil | apply sub_d rfl | apply sub_msl rfl | apply sub_mptr rfl | apply SubK.cons _ _ _ _ rfl)) (blk_box rfl (blk_nil rfl)) ?_
        refine twp_rseq ?_
        refine s_rd _ rfl (cmp_int rfl rfl rfl rfl) ?_
        refine tops_nil ?_
        refine twp_norm [1, 24, 25, 26, 27] (by repeat (first | exact SubK.nil | apply sub_d rfl | apply sub_msl rfl | apply sub_mptr rfl | apply SubK.cons _ _ _ _ rfl)) (blk_box rfl (blk_nil rfl)) ?_
        refine twp_seq ?_
        refine twp_cond _ rfl (fun hlt => ?_) (fun hlt => ?_)
        · have hlt : i < p.rungs.length := by simpa using hlt
          obtain ⟨r, hr⟩ : ∃ x, (p.rungs)[i]? = some x := ⟨_, List.getElem?_eq_getElem (by first | exact hlt | omega | (simp; omega))⟩
          refine twp_skip ?_
          refine way_then ?_
          refine twp_norm [1, 24, 25, 26] (by repeat (first | exact SubK.nil | apply sub_d rfl | apply sub_msl rfl | apply sub_mptr rfl | apply SubK.cons _ _ _ _ rfl)) (blk_box rfl (blk_nil rfl)) ?_
          refine twp_seq ?_
          refine twp_block ?_
          refine twp_rseq ?_
          refine s_rd _ rfl (by first | exact index_msl0 rfl sel23 rfl rfl (by first | assumption | omega | (simp; omega)) | exact index_sl rfl sel23 rfl rfl (by first | exact ⟨by omega, by assumption⟩ | exact idx_map (by assumption) | exact idx_id (by assumption))) ?_
          refine s_rd _ rfl (by first | exact load_ptrW rfl lay50 rfl rfl rfl | exact load_flatW rfl lay50 rfl rfl (by first | rfl | assumption | (simp only [List.getElem?_map, Option.map_some, *]; done)) rfl rfl | exact load_boxA_d rfl lay50 rfl rfl (Nat.le_of_ble_eq_true rfl) rfl | exact load_boxA rfl lay50 rfl rfl (Nat.le_of_ble_eq_true rfl) rfl | exact load_ptrA rfl lay50 rfl (Nat.le_of_ble_eq_true rfl) rfl) ?_
          refine s_alloc rfl zero50 rfl rfl ?_
          refine s_eq 4 (.mptr 1 0 0 0) rfl rfl ?_
          refine s_store_box lay50 rfl rfl rfl rfl rfl (Nat.le_of_ble_eq_true rfl) rfl ?_
          refine tops_nil ?_
          refine twp_norm [1, 4, 24, 25, 26] (by repeat (first | exact SubK.nil | apply sub_d rfl | apply sub_msl rfl | apply sub_mptr rfl | apply SubK.cons _ _ _ _ rfl)) (blk_box rfl (blk_boxN rfl (by repeat (first | exact NormC.nil rfl | apply nc_d rfl | apply nc_msl rfl | apply nc_mptr rfl | apply nc_fnc rfl)) (blk_nil rfl))) ?_
          refine twp_rseq ?_
          refine s_rd _ rfl (by first | exact load_boxA_d rfl lay25 rfl rfl (Nat.le_of_ble_eq_true rfl) rfl | exact load_boxA rfl lay25 rfl rfl (Nat.le_of_ble_eq_true rfl) rfl) ?_
          refine s_rd _ rfl (by first | exact load_boxA_d rfl lay50 rfl rfl (Nat.le_of_ble_eq_true rfl) rfl | exact load_boxA rfl lay50 rfl rfl (Nat.le_of_ble_eq_true rfl) rfl) ?_
          refine s_rd _ rfl (rd_callRN rfl rfl (by repeat (first | exact snaps_nil | refine snaps_cons (.d _) ?_ | refine snaps_cons (snap_full rfl (by simp)) ?_ | refine snaps_cons (snap_full rfl rfl) ?_ | refine snaps_cons (snap_boxD rfl rfl) ?_ | refine snaps_cons (snap_agg (by repeat (first | exact SnapsO.nil | refine SnapsO.cons (Snap.d _) rfl ?_ | refine SnapsO.cons (snap_full rfl rfl) rfl ?_))) ?_)) (rightP_n p r (hp.rung r (List.mem_of_getElem? hr)))) ?_
          refine s_rd _ rfl (not_b rfl rfl rfl) ?_
          refine tops_nil ?_
          refine twp_norm [1, 24, 25, 26, 33] (by repeat (first | exact SubK.nil | apply sub_d rfl | apply sub_msl rfl | apply sub_mptr rfl | apply SubK.cons _ _ _ _ rfl)) (blk_box rfl (blk_box rfl (blk_nil rfl))) ?_
          refine twp_cond _ rfl (fun hfa => ?_) (fun hfa => ?_)
          · have hno : p.rungs.all p.right = false := allTo_no hr (by simpa using hfa)
            refine twp_rseq ?_
            refine s_rd _ rfl (mv_d (.inr rfl) rfl) ?_
            refine tops_nil ?_
            refine twp_norm [2] (sub_d rfl .nil) (blk_box rfl (blk_box rfl (blk_nil rfl))) ?_
            refine twp_ret ?_
            refine way_blockRet ?_
            refine way_thenRet ?_
            refine way_thenRet ?_
            refine way_blockRet ?_
            refine way_thenRet ?_
            exact Ends.plainI _ rfl (by grind [Prg.check])
          · refine twp_skip ?_
            refine way_block ?_
            refine way_then ?_
            refine twp_norm [1, 24, 25, 26] (by repeat (first | exact SubK.nil | apply sub_d rfl | apply sub_msl rfl | apply sub_mptr rfl | apply SubK.cons _ _ _ _ rfl)) (blk_box rfl (blk_box rfl (blk_nil rfl))) ?_
            refine twp_region ?_
            refine s_rd _ rfl (arith_ok rfl rfl rfl rfl (by omega)) ?_
            refine s_rd _ rfl (mv_d (.inl rfl) rfl) ?_
            refine tops_nil ?_
            refine way_then ?_
            exact ⟨(i + 1), [0], by decide, (fun i hi => absurd hi (Nat.not_lt_zero i)), ⟨by omega, allTo_succ hinv hr (by simpa using hfa)⟩, (by omega), rfl⟩
        · have hge : ¬ i < p.rungs.length := by simpa using hlt
          have hi : i = p.rungs.length := by omega
          have hall := allTo_end hinv hge
          refine twp_exit ?_
          refine way_thenExit ?_
          refine way_thenExit ?_
          refine way_here ?_
          refine way_then ?_
          refine twp_norm [1] (sub_mptr rfl .nil) (blk_box rfl (blk_nil rfl)) ?_
          refine twp_rseq ?_
          refine s_rd _ rfl (fieldAddr_mptr rfl fld25_0 rfl rfl) ?_
          refine s_rd _ rfl (by first | exact load_box_d rfl lay22 rfl rfl rfl | exact load_box rfl lay22 rfl rfl rfl) ?_
          refine s_rd _ rfl (by first | exact len_d rfl sel22 rfl (by first | exact List.length_map _ | rfl) | exact len_msl rfl sel22 rfl | exact len_nil rfl sel22 rfl) ?_
          refine s_makeSlice (n := p.names.length) rfl sel31 zero4 rfl rfl rfl rfl (by omega) (by omega) ?_
          refine s_eq 38 (.msl 1 _ _ _) rfl rfl ?_
          refine s_rd _ rfl (mv_msl (.inr rfl) rfl) ?_
          refine tops_nil ?_
          refine twp_norm [1, 5] (sub_mptr rfl (sub_msl rfl .nil)) (blk_box rfl (blk_flat rfl (blk_nil rfl))) ?_
          refine twp_seq ?_
          refine twp_rseq ?_
          refine s_rd _ rfl (fieldAddr_mptr rfl fld25_2 rfl rfl) ?_
          refine s_rd _ rfl (by first | exact load_box_d rfl lay23 rfl rfl rfl | exact load_box rfl lay23 rfl rfl rfl) ?_
          refine s_rd _ rfl (by first | exact len_d rfl sel23 rfl (by first | exact List.length_map _ | rfl) | exact len_msl rfl sel23 rfl | exact len_nil rfl sel23 rfl) ?_
          refine s_rd _ rfl (mv_d (.inl rfl) rfl) ?_
          refine tops_nil ?_
          refine twp_norm [5, 40, 41, 42] (by repeat (first | exact SubK.nil | apply sub_d rfl | apply sub_msl rfl | apply sub_mptr rfl | apply SubK.cons _ _ _ _ rfl)) (blk_box rfl (blk_flat rfl (blk_nil rfl))) ?_
          refine twp_block ?_
          refine twp_whileK (fun i => ([(42, .d (.int .i64 ((i : Nat) : Int)))] : Fr)) (fun i => ([(1, .flat 4 1 ((marks p.names.length ((p.rungs.map Rung.var).take i)).map D.bool))] : List (Nat × Blk))) (fun i => i ≤ p.rungs.length ∧ (((p.rungs.map Rung.var).take i).Nodup)) (fun i => p.rungs.length - i) [42] [5, 40, 41] [0, 1] 0 (by decide) (fun i hi => absurd hi (Nat.not_lt_zero i)) ⟨Nat.zero_le _, (by rw [List.take_zero]; exact List.nodup_nil)⟩ (by repeat (first | exact SubK.nil | apply sub_d rfl | apply sub_msl rfl | apply sub_mptr rfl | apply SubK.cons _ _ _ _ rfl)) rfl rfl (blk_box rfl (blk_flat rfl (blk_nil rfl))) (by rw [List.take_zero, marks_nil, List.map_replicate]; rfl) ?_
          rintro i ⟨hok, hinv⟩
          refine twp_norm [42, 5, 40, 41] (by repeat (first | exact SubK.nil | apply sub_d rfl | apply sub_msl rfl | apply sub_mptr rfl | apply SubK.cons _ _ _ _ rfl)) (blk_box rfl (blk_flat rfl (blk_nil rfl))) ?_
          refine twp_rseq ?_
          refine s_rd _ rfl (cmp_int rfl rfl rfl rfl) ?_
          refine tops_nil ?_
          refine twp_norm [5, 40, 41, 42, 43] (by repeat (first | exact SubK.nil | apply sub_d rfl | apply sub_msl rfl | apply sub_mptr rfl | apply SubK.cons _ _ _ _ rfl)) (blk_box rfl (blk_flat rfl (blk_nil rfl))) ?_
          refine twp_seq ?_
          refine twp_cond _ rfl (fun hlt => ?_) (fun hlt => ?_)
          · have hlt : i < p.rungs.length := by simpa using hlt
            obtain ⟨r, hr⟩ : ∃ x, (p.rungs)[i]? = some x := ⟨_, List.getElem?_eq_getElem (by first | exact hlt | omega | (simp; omega))⟩
            have hrt : p.right r = true := List.all_eq_true.1 hall r (List.mem_of_getElem? hr)
            obtain ⟨hv0, hv1⟩ := Prg.right_var hrt hin
            have hmk := marks_get p.names.length ((p.rungs.map Rung.var).take i) (fun v hv => by obtain ⟨q, hq, rfl⟩ := List.mem_map.1 (List.mem_of_mem_take hv); exact (Prg.right_var (List.all_eq_true.1 hall q hq) hin).1) r.var hv0 hv1
            refine twp_skip ?_
            refine way_then ?_
            refine twp_norm [5, 40, 41, 42] (by repeat (first | exact SubK.nil | apply sub_d rfl | apply sub_msl rfl | apply sub_mptr rfl | apply SubK.cons _ _ _ _ rfl)) (blk_box rfl (blk_flat rfl (blk_nil rfl))) ?_
            refine twp_seq ?_
            refine twp_block ?_
            refine twp_rseq ?_
            refine s_rd _ rfl (by first | exact index_msl0 rfl sel23 rfl rfl (by first | assumption | omega | (simp; omega)) | exact index_sl rfl sel23 rfl rfl (by first | exact ⟨by omega, by assumption⟩ | exact idx_map (by assumption) | exact idx_id (by assumption))) ?_
            refine s_rd _ rfl (by first | exact load_ptrW rfl lay50 rfl rfl rfl | exact load_flatW rfl lay50 rfl rfl (by first | rfl | assumption | (simp only [List.getElem?_map, Option.map_some, *]; done)) rfl rfl | exact load_boxA_d rfl lay50 rfl rfl (Nat.le_of_ble_eq_true rfl) rfl | exact load_boxA rfl lay50 rfl rfl (Nat.le_of_ble_eq_true rfl) rfl | exact load_ptrA rfl lay50 rfl (Nat.le_of_ble_eq_true rfl) rfl) ?_
            refine s_alloc rfl zero50 rfl rfl ?_
            refine s_eq 7 (.mptr 2 0 0 0) rfl rfl ?_
            refine s_store_box lay50 rfl rfl rfl rfl rfl (Nat.le_of_ble_eq_true rfl) rfl ?_
            refine tops_nil ?_
            refine twp_norm [5, 7, 40, 41, 42] (by repeat (first | exact SubK.nil | apply sub_d rfl | apply sub_msl rfl | apply sub_mptr rfl | apply SubK.cons _ _ _ _ rfl)) (blk_box rfl (blk_flat rfl (blk_boxN rfl (by repeat (first | exact NormC.nil rfl | apply nc_d rfl | apply nc_msl rfl | apply nc_mptr rfl | apply nc_fnc rfl)) (blk_nil rfl)))) ?_
            refine twp_seq ?_
            refine twp_rseq ?_
            refine s_rd _ rfl (mv_msl (.inl rfl) rfl) ?_
            refine s_rd _ rfl (fieldAddr_mptr rfl fld50_1 rfl rfl) ?_
            refine s_rd _ rfl (by first | exact load_box_d rfl lay3 rfl rfl rfl | exact load_box rfl lay3 rfl rfl rfl) ?_
            refine s_rd _ rfl (index_msl rfl sel31 rfl rfl ⟨hv0, by omega⟩ (Nat.zero_add _)) ?_
            refine s_rd _ rfl (load_flat rfl lay4 rfl rfl ((by rw [List.getElem?_map, hmk]; rfl)) rfl) ?_
            refine tops_nil ?_
            refine twp_norm [5, 7, 40, 41, 42, 50] (by repeat (first | exact SubK.nil | apply sub_d rfl | apply sub_msl rfl | apply sub_mptr rfl | apply SubK.cons _ _ _ _ rfl)) (blk_box rfl (blk_flat rfl (blk_box rfl (blk_nil rfl)))) ?_
            refine twp_cond _ rfl (fun hm => ?_) (fun hm => ?_)
            · have hdup : ¬ (p.rungs.map Rung.var).Nodup := dup_at hr (of_decide_eq_true hm)
              refine twp_rseq ?_
              refine s_rd _ rfl (mv_d (.inr rfl) rfl) ?_
              refine tops_nil ?_
              refine twp_norm [2] (sub_d rfl .nil) (blk_box rfl (blk_flat rfl (blk_box rfl (blk_nil rfl)))) ?_
              refine twp_ret ?_
              refine way_thenRet ?_
              refine way_blockRet ?_
              refine way_thenRet ?_
              refine way_thenRet ?_
              refine way_blockRet ?_
              refine way_thenRet ?_
              exact Ends.plainI _ rfl (by grind [Prg.check])
            · have hm := of_decide_eq_false hm
              have hnd : ((p.rungs.map Rung.var).take (i + 1)).Nodup := by rw [vars_succ hr]; exact nodup_snoc.2 ⟨hinv, hm⟩
              have hE : ((marks p.names.length ((p.rungs.map Rung.var).take i)).map D.bool).set r.var.toNat (D.bool true) = (marks p.names.length ((p.rungs.map Rung.var).take (i + 1))).map D.bool := by rw [vars_succ hr, marks_snoc, List.map_set]
              refine twp_skip ?_
              refine way_then ?_
              refine twp_norm [5, 7, 40, 41, 42] (by repeat (first | exact SubK.nil | apply sub_d rfl | apply sub_msl rfl | apply sub_mptr rfl | apply SubK.cons _ _ _ _ rfl)) (blk_box rfl (blk_flat rfl (blk_box rfl (blk_nil rfl)))) ?_
              refine twp_region ?_
              refine s_rd _ rfl (mv_msl (.inl rfl) rfl) ?_
              refine s_rd _ rfl (fieldAddr_mptr rfl fld50_1 rfl rfl) ?_
              refine s_rd _ rfl (by first | exact load_box_d rfl lay3 rfl rfl rfl | exact load_box rfl lay3 rfl rfl rfl) ?_
              refine s_rd _ rfl (index_msl rfl sel31 rfl rfl ⟨hv0, by omega⟩ (Nat.zero_add _)) ?_
              refine s_store_flat (e' := D.bool true) lay4 rfl rfl rfl rfl (by rw [List.getElem?_map, hmk]; rfl) (by first | exact .inl rfl | exact .inr rfl) (Nat.le_of_ble_eq_true rfl) rfl ?_
              refine tops_nil ?_
              refine way_block ?_
              refine way_then ?_
              refine twp_norm [5, 40, 41, 42] (by repeat (first | exact SubK.nil | apply sub_d rfl | apply sub_msl rfl | apply sub_mptr rfl | apply SubK.cons _ _ _ _ rfl)) (blk_box rfl (blk_flat rfl (blk_box rfl (blk_nil rfl)))) ?_
              refine twp_region ?_
              refine s_rd _ rfl (arith_ok rfl rfl rfl rfl (by omega)) ?_
              refine s_rd _ rfl (mv_d (.inl rfl) rfl) ?_
              refine tops_nil ?_
              refine way_then ?_
              exact ⟨(i + 1), [0, 1], by decide, (fun i hi => absurd hi (Nat.not_lt_zero i)), ⟨by omega, hnd⟩, (by omega), (by rw [hE]; rfl)⟩
          · have hge : ¬ i < p.rungs.length := by simpa using hlt
            have hi : i = p.rungs.length := by omega
            have hnd : (p.rungs.map Rung.var).Nodup := by rw [hi] at hinv; rwa [List.take_of_length_le (by simp)] at hinv
            refine twp_exit ?_
            refine way_thenExit ?_
            refine way_thenExit ?_
            refine way_here ?_
            refine way_then ?_
            refine twp_norm [] .nil (blk_box rfl (blk_flat rfl (blk_nil rfl))) ?_
            refine twp_rseq ?_
            refine s_rd _ rfl (mv_d (.inr rfl) rfl) ?_
            refine tops_nil ?_
            refine twp_norm [2] (sub_d rfl .nil) (blk_box rfl (blk_flat rfl (blk_nil rfl))) ?_
            refine twp_ret ?_
            exact Ends.plainI _ rfl (by grind [Prg.check])

theorem callB12 : callB Try.prog 12 = true := by kernel_rfl

theorem checkR_step (p : Prg) (hp : p.Wf) (hs : ∀ r ∈ p.rungs, r.expr.size ≤ 1000000) : Ret Try.prog 12 [] (fun _ => false) ([p.enc].map .d) (.d (.int .i64 p.check)) [] := by
  have hrl := hp.rungs
  refine ret_body callB12 Try.func12 rfl Try.ntmps12 rfl rfl (fun wX gX => ?_)
  refine twp_norm [0] (sub_d rfl .nil) (blk_nil rfl) ?_
  refine twp_rseq ?_
  refine s_boxA rfl rfl rfl ?_
  refine s_eq 1 (.mptr 0 0 0 0) rfl rfl ?_
  refine s_rd _ rfl (mv_d (.inr rfl) rfl) ?_
  refine tops_nil ?_
  refine twp_norm [1] (sub_mptr rfl .nil) (blk_boxN rfl (by repeat (first | exact NormC.nil rfl | apply nc_d rfl | apply nc_msl rfl | apply nc_mptr rfl | apply nc_fnc rfl)) (blk_nil rfl)) ?_
  refine twp_seq ?_
  refine twp_rseq ?_
  refine s_rd _ rfl (fieldAddr_mptr rfl fld25_0 rfl rfl) ?_
  refine s_rd _ rfl (by first | exact load_box_d rfl lay22 rfl rfl rfl | exact load_box rfl lay22 rfl rfl rfl) ?_
  refine s_rd _ rfl (by first | exact len_d rfl sel22 rfl (by first | exact List.length_map _ | rfl) | exact len_msl rfl sel22 rfl | exact len_nil rfl sel22 rfl) ?_
  refine s_rd _ rfl (cmp_int rfl rfl rfl rfl) ?_
  refine tops_nil ?_
  refine twp_norm [1, 9] (sub_mptr rfl (sub_d rfl .nil)) (blk_box rfl (blk_nil rfl)) ?_
  refine twp_cond _ rfl (fun h0 => ?_) (fun h0 => ?_)
  · refine twp_rseq ?_
    refine s_rd _ rfl (mv_d (.inr rfl) rfl) ?_
    refine tops_nil ?_
    refine twp_norm [2] (sub_d rfl .nil) (blk_box rfl (blk_nil rfl)) ?_
    refine twp_ret ?_
    refine way_thenRet ?_
    exact Ends.plainI _ rfl (by grind [Prg.check])
  · refine twp_skip ?_
    refine way_then ?_
    refine twp_norm [1] (sub_mptr rfl .nil) (blk_box rfl (blk_nil rfl)) ?_
    refine twp_seq ?_
    refine twp_rseq ?_
    refine s_rd _ rfl (fieldAddr_mptr rfl fld25_1 rfl rfl) ?_
    refine s_rd _ rfl (by first | exact load_box_d rfl lay3 rfl rfl rfl | exact load_box rfl lay3 rfl rfl rfl) ?_
    refine s_rd _ rfl (cmp_int rfl rfl rfl rfl) ?_
    refine s_rd _ rfl (mv_d (.inl rfl) rfl) ?_
    refine s_split 13 rfl (fun h1 => ?_) (fun h1 => ?_)
    · refine s_no rfl rfl rfl rfl ?_
      refine s_no rfl rfl rfl rfl ?_
      refine s_no rfl rfl rfl rfl ?_
      refine s_no rfl rfl rfl rfl ?_
      refine s_no rfl rfl rfl rfl ?_
      refine s_no rfl rfl rfl rfl ?_
      refine s_rd _ rfl (by first | exact pick_Td rfl rfl rfl | exact pick_T rfl rfl rfl) ?_
      refine tops_nil ?_
      refine twp_norm [1, 20] (sub_mptr rfl (sub_d rfl .nil)) (blk_box rfl (blk_nil rfl)) ?_
      refine twp_cond true rfl (fun _ => ?_) (fun h => by cases h)
      refine twp_rseq ?_
      refine s_rd _ rfl (mv_d (.inr rfl) rfl) ?_
      refine tops_nil ?_
      refine twp_norm [2] (sub_d rfl .nil) (blk_box rfl (blk_nil rfl)) ?_
      refine twp_ret ?_
      refine way_thenRet ?_
      exact Ends.plainI _ rfl (by grind [Prg.check])
    · refine s_yes rfl rfl rfl ?_
      refine s_rd _ rfl (fieldAddr_mptr rfl fld25_1 rfl rfl) ?_
      refine s_yes rfl rfl rfl ?_
      refine s_rd _ rfl (by first | exact load_box_d rfl lay3 rfl rfl rfl | exact load_box rfl lay3 rfl rfl rfl) ?_
      refine s_yes rfl rfl rfl ?_
      refine s_rd _ rfl (fieldAddr_mptr rfl fld25_0 rfl rfl) ?_
      refine s_yes rfl rfl rfl ?_
      refine s_rd _ rfl (by first | exact load_box_d rfl lay22 rfl rfl rfl | exact load_box rfl lay22 rfl rfl rfl) ?_
      refine s_yes rfl rfl rfl ?_
      refine s_rd _ rfl (by first | exact len_d rfl sel22 rfl (by first | exact List.length_map _ | rfl) | exact len_msl rfl sel22 rfl | exact len_nil rfl sel22 rfl) ?_
      refine s_yes rfl rfl rfl ?_
      refine s_rd _ rfl (cmp_int rfl rfl rfl rfl) ?_
      refine s_rd _ rfl (by first | exact pick_Fd rfl rfl rfl | exact pick_F rfl rfl rfl) ?_
      refine tops_nil ?_
      refine twp_norm [1, 20] (sub_mptr rfl (sub_d rfl .nil)) (blk_box rfl (blk_nil rfl)) ?_
      refine twp_cond _ rfl (fun h3 => ?_) (fun h3 => ?_)
      · refine twp_rseq ?_
        refine s_rd _ rfl (mv_d (.inr rfl) rfl) ?_
        refine tops_nil ?_
        refine twp_norm [2] (sub_d rfl .nil) (blk_box rfl (blk_nil rfl)) ?_
        refine twp_ret ?_
        refine way_thenRet ?_
        exact Ends.plainI _ rfl (by grind [Prg.check])
      · refine twp_skip ?_
        refine way_then ?_
        refine twp_norm [1] (sub_mptr rfl .nil) (blk_box rfl (blk_nil rfl)) ?_
        refine twp_seq ?_
        refine twp_rseq ?_
        refine s_rd _ rfl (mv_d (.inr rfl) rfl) ?_
        refine tops_nil ?_
        refine twp_norm [1, 3] (sub_mptr rfl (sub_d rfl .nil)) (blk_box rfl (blk_nil rfl)) ?_
        refine twp_block ?_
        refine twp_whileK (fun i => ([(3, .d (.int .i64 ((i : Nat) : Int)))] : Fr)) (fun i => ([] : List (Nat × Blk))) (fun i => i ≤ p.rungs.length ∧ (allTo p.right p.rungs i)) (fun i => p.rungs.length - i) [3] [1] [0] 0 (by decide) (fun i hi => absurd hi (Nat.not_lt_zero i)) ⟨Nat.zero_le _, allTo_zero⟩ (sub_mptr rfl .nil) rfl rfl (blk_box rfl (blk_nil rfl)) rfl ?_
        rintro i ⟨hok, hinv⟩
        refine twp_norm [3, 1] (sub_d rfl (sub_mptr rfl .nil)) (blk_box rfl (blk_nil rfl)) ?_
        refine twp_seq ?_
        refine twp_rseq ?_
        refine s_rd _ rfl (mv_d (.inl rfl) rfl) ?_
        refine s_rd _ rfl (fieldAddr_mptr rfl fld25_2 rfl rfl) ?_
        refine s_rd _ rfl (by first | exact load_box_d rfl lay23 rfl rfl rfl | exact load_box rfl lay23 rfl rfl rfl) ?_
        refine s_rd _ rfl (by first | exact len_d rfl sel23 rfl (by first | exact List.length_map _ | rfl) | exact len_msl rfl sel23 rfl | exact len_nil rfl sel23 rfl) ?_
        refine s_rd _ rfl (cmp_int rfl rfl rfl rfl) ?_
        refine tops_nil ?_
        refine twp_norm [1, 3, 25] (sub_mptr rfl (sub_d rfl (sub_d rfl .nil))) (blk_box rfl (blk_nil rfl)) ?_
        refine twp_cond _ rfl (fun hlt => ?_) (fun hlt => ?_)
        · have hlt : i < p.rungs.length := by simpa using hlt
          obtain ⟨r, hr⟩ : ∃ x, (p.rungs)[i]? = some x := ⟨_, List.getElem?_eq_getElem (by first | exact hlt | omega | (simp; omega))⟩
          refine twp_skip ?_
          refine way_then ?_
          refine twp_norm [1, 3] (sub_mptr rfl (sub_d rfl .nil)) (blk_box rfl (blk_nil rfl)) ?_
          refine twp_seq ?_
          refine twp_block ?_
          refine twp_dseq follows  ?_
          first | refine d_rd [] _ rfl rfl (by first | exact load_boxA_d rfl lay25 rfl rfl (Nat.le_of_ble_eq_true rfl) rfl | exact load_boxA rfl lay25 rfl rfl (Nat.le_of_ble_eq_true rfl) rfl) ?_ | refine d_rd [0] _ rfl rfl (by first | exact load_boxA_d rfl lay25 rfl rfl (Nat.le_of_ble_eq_true rfl) rfl | exact load_boxA rfl lay25 rfl rfl (Nat.le_of_ble_eq_true rfl) rfl) ?_ | refine d_rd [1] _ rfl rfl (by first | exact load_boxA_d rfl lay25 rfl rfl (Nat.le_of_ble_eq_true rfl) rfl | exact load_boxA rfl lay25 rfl rfl (Nat.le_of_ble_eq_true rfl) rfl) ?_ | refine d_rd [2] _ rfl rfl (by first | exact load_boxA_d rfl lay25 rfl rfl (Nat.le_of_ble_eq_true rfl) rfl | exact load_boxA rfl lay25 rfl rfl (Nat.le_of_ble_eq_true rfl) rfl) ?_ | refine d_rd [3] _ rfl rfl (by first | exact load_boxA_d rfl lay25 rfl rfl (Nat.le_of_ble_eq_true rfl) rfl | exact load_boxA rfl lay25 rfl rfl (Nat.le_of_ble_eq_true rfl) rfl) ?_ | refine d_rd [0, 1] _ rfl rfl (by first | exact load_boxA_d rfl lay25 rfl rfl (Nat.le_of_ble_eq_true rfl) rfl | exact load_boxA rfl lay25 rfl rfl (Nat.le_of_ble_eq_true rfl) rfl) ?_
          refine d_rd [] _ rfl rfl (fieldAddr_mptr rfl fld25_2 rfl rfl) ?_
          first | refine d_rd [] _ rfl rfl (by first | exact load_box_d rfl lay23 rfl rfl rfl | exact load_box rfl lay23 rfl rfl rfl) ?_ | refine d_rd [0] _ rfl rfl (by first | exact load_box_d rfl lay23 rfl rfl rfl | exact load_box rfl lay23 rfl rfl rfl) ?_ | refine d_rd [1] _ rfl rfl (by first | exact load_box_d rfl lay23 rfl rfl rfl | exact load_box rfl lay23 rfl rfl rfl) ?_ | refine d_rd [2] _ rfl rfl (by first | exact load_box_d rfl lay23 rfl rfl rfl | exact load_box rfl lay23 rfl rfl rfl) ?_ | refine d_rd [3] _ rfl rfl (by first | exact load_box_d rfl lay23 rfl rfl rfl | exact load_box rfl lay23 rfl rfl rfl) ?_ | refine d_rd [0, 1] _ rfl rfl (by first | exact load_box_d rfl lay23 rfl rfl rfl | exact load_box rfl lay23 rfl rfl rfl) ?_
          refine d_rd [] _ rfl rfl (mv_d (.inl rfl) rfl) ?_
          refine d_rd [] _ rfl rfl (by first | exact index_msl0 rfl sel23 rfl rfl (by first | assumption | omega | (simp; omega)) | exact index_sl rfl sel23 rfl rfl (by first | exact ⟨by omega, by assumption⟩ | exact idx_map (by assumption) | exact idx_id (by assumption))) ?_
          first | refine d_rd [] _ rfl rfl (by first | exact load_ptrW rfl lay50 rfl rfl rfl | exact load_flatW rfl lay50 rfl rfl (by first | rfl | assumption | (simp only [List.getElem?_map, Option.map_some, *]; done)) rfl rfl | exact load_boxA_d rfl lay50 rfl rfl (Nat.le_of_ble_eq_true rfl) rfl | exact load_boxA rfl lay50 rfl rfl (Nat.le_of_ble_eq_true rfl) rfl | exact load_ptrA rfl lay50 rfl (Nat.le_of_ble_eq_true rfl) rfl) ?_ | refine d_rd [0] _ rfl rfl (by first | exact load_ptrW rfl lay50 rfl rfl rfl | exact load_flatW rfl lay50 rfl rfl (by first | rfl | assumption | (simp only [List.getElem?_map, Option.map_some, *]; done)) rfl rfl | exact load_boxA_d rfl lay50 rfl rfl (Nat.le_of_ble_eq_true rfl) rfl | exact load_boxA rfl lay50 rfl rfl (Nat.le_of_ble_eq_true rfl) rfl | exact load_ptrA rfl lay50 rfl (Nat.le_of_ble_eq_true rfl) rfl) ?_ | refine d_rd [1] _ rfl rfl (by first | exact load_ptrW rfl lay50 rfl rfl rfl | exact load_flatW rfl lay50 rfl rfl (by first | rfl | assumption | (simp only [List.getElem?_map, Option.map_some, *]; done)) rfl rfl | exact load_boxA_d rfl lay50 rfl rfl (Nat.le_of_ble_eq_true rfl) rfl | exact load_boxA rfl lay50 rfl rfl (Nat.le_of_ble_eq_true rfl) rfl | exact load_ptrA rfl lay50 rfl (Nat.le_of_ble_eq_true rfl) rfl) ?_ | refine d_rd [2] _ rfl rfl (by first | exact load_ptrW rfl lay50 rfl rfl rfl | exact load_flatW rfl lay50 rfl rfl (by first | rfl | assumption | (simp only [List.getElem?_map, Option.map_some, *]; done)) rfl rfl | exact load_boxA_d rfl lay50 rfl rfl (Nat.le_of_ble_eq_true rfl) rfl | exact load_boxA rfl lay50 rfl rfl (Nat.le_of_ble_eq_true rfl) rfl | exact load_ptrA rfl lay50 rfl (Nat.le_of_ble_eq_true rfl) rfl) ?_ | refine d_rd [3] _ rfl rfl (by first | exact load_ptrW rfl lay50 rfl rfl rfl | exact load_flatW rfl lay50 rfl rfl (by first | rfl | assumption | (simp only [List.getElem?_map, Option.map_some, *]; done)) rfl rfl | exact load_boxA_d rfl lay50 rfl rfl (Nat.le_of_ble_eq_true rfl) rfl | exact load_boxA rfl lay50 rfl rfl (Nat.le_of_ble_eq_true rfl) rfl | exact load_ptrA rfl lay50 rfl (Nat.le_of_ble_eq_true rfl) rfl) ?_ | refine d_rd [0, 1] _ rfl rfl (by first | exact load_ptrW rfl lay50 rfl rfl rfl | exact load_flatW rfl lay50 rfl rfl (by first | rfl | assumption | (simp only [List.getElem?_map, Option.map_some, *]; done)) rfl rfl | exact load_boxA_d rfl lay50 rfl rfl (Nat.le_of_ble_eq_true rfl) rfl | exact load_boxA rfl lay50 rfl rfl (Nat.le_of_ble_eq_true rfl) rfl | exact load_ptrA rfl lay50 rfl (Nat.le_of_ble_eq_true rfl) rfl) ?_
          first | refine d_rd [] _ rfl rfl (rd_callRN rfl rfl (by repeat (first | exact snaps_nil | refine snaps_cons (.d _) ?_ | refine snaps_cons (snap_full rfl (by simp)) ?_ | refine snaps_cons (snap_full rfl rfl) ?_ | refine snaps_cons (snap_boxD rfl rfl) ?_ | refine snaps_cons (snap_agg (by repeat (first | exact SnapsO.nil | refine SnapsO.cons (Snap.d _) rfl ?_ | refine SnapsO.cons (snap_full rfl rfl) rfl ?_))) ?_)) (rightR_n p r (hs r (List.mem_of_getElem? hr)) (hp.rung r (List.mem_of_getElem? hr)))) ?_ | refine d_rd [0] _ rfl rfl (rd_callRN rfl rfl (by repeat (first | exact snaps_nil | refine snaps_cons (.d _) ?_ | refine snaps_cons (snap_full rfl (by simp)) ?_ | refine snaps_cons (snap_full rfl rfl) ?_ | refine snaps_cons (snap_boxD rfl rfl) ?_ | refine snaps_cons (snap_agg (by repeat (first | exact SnapsO.nil | refine SnapsO.cons (Snap.d _) rfl ?_ | refine SnapsO.cons (snap_full rfl rfl) rfl ?_))) ?_)) (rightR_n p r (hs r (List.mem_of_getElem? hr)) (hp.rung r (List.mem_of_getElem? hr)))) ?_ | refine d_rd [1] _ rfl rfl (rd_callRN rfl rfl (by repeat (first | exact snaps_nil | refine snaps_cons (.d _) ?_ | refine snaps_cons (snap_full rfl (by simp)) ?_ | refine snaps_cons (snap_full rfl rfl) ?_ | refine snaps_cons (snap_boxD rfl rfl) ?_ | refine snaps_cons (snap_agg (by repeat (first | exact SnapsO.nil | refine SnapsO.cons (Snap.d _) rfl ?_ | refine SnapsO.cons (snap_full rfl rfl) rfl ?_))) ?_)) (rightR_n p r (hs r (List.mem_of_getElem? hr)) (hp.rung r (List.mem_of_getElem? hr)))) ?_ | refine d_rd [2] _ rfl rfl (rd_callRN rfl rfl (by repeat (first | exact snaps_nil | refine snaps_cons (.d _) ?_ | refine snaps_cons (snap_full rfl (by simp)) ?_ | refine snaps_cons (snap_full rfl rfl) ?_ | refine snaps_cons (snap_boxD rfl rfl) ?_ | refine snaps_cons (snap_agg (by repeat (first | exact SnapsO.nil | refine SnapsO.cons (Snap.d _) rfl ?_ | refine SnapsO.cons (snap_full rfl rfl) rfl ?_))) ?_)) (rightR_n p r (hs r (List.mem_of_getElem? hr)) (hp.rung r (List.mem_of_getElem? hr)))) ?_ | refine d_rd [3] _ rfl rfl (rd_callRN rfl rfl (by repeat (first | exact snaps_nil | refine snaps_cons (.d _) ?_ | refine snaps_cons (snap_full rfl (by simp)) ?_ | refine snaps_cons (snap_full rfl rfl) ?_ | refine snaps_cons (snap_boxD rfl rfl) ?_ | refine snaps_cons (snap_agg (by repeat (first | exact SnapsO.nil | refine SnapsO.cons (Snap.d _) rfl ?_ | refine SnapsO.cons (snap_full rfl rfl) rfl ?_))) ?_)) (rightR_n p r (hs r (List.mem_of_getElem? hr)) (hp.rung r (List.mem_of_getElem? hr)))) ?_ | refine d_rd [0, 1] _ rfl rfl (rd_callRN rfl rfl (by repeat (first | exact snaps_nil | refine snaps_cons (.d _) ?_ | refine snaps_cons (snap_full rfl (by simp)) ?_ | refine snaps_cons (snap_full rfl rfl) ?_ | refine snaps_cons (snap_boxD rfl rfl) ?_ | refine snaps_cons (snap_agg (by repeat (first | exact SnapsO.nil | refine SnapsO.cons (Snap.d _) rfl ?_ | refine SnapsO.cons (snap_full rfl rfl) rfl ?_))) ?_)) (rightR_n p r (hs r (List.mem_of_getElem? hr)) (hp.rung r (List.mem_of_getElem? hr)))) ?_
          refine d_rd [] _ rfl rfl (not_b rfl rfl rfl) ?_
          refine d_tail ?_ (by kernel_rfl)
          refine tops_nil ?_
          refine twp_norm [1, 3, 35] (sub_mptr rfl (sub_d rfl (sub_d rfl .nil))) (blk_box rfl (blk_nil rfl)) ?_
          refine twp_cond _ rfl (fun hfa => ?_) (fun hfa => ?_)
          · have hno : p.rungs.all p.right = false := allTo_no hr (by simpa using hfa)
            refine twp_rseq ?_
            refine s_rd _ rfl (mv_d (.inr rfl) rfl) ?_
            refine tops_nil ?_
            refine twp_norm [2] (sub_d rfl .nil) (blk_box rfl (blk_nil rfl)) ?_
            refine twp_ret ?_
            refine way_blockRet ?_
            refine way_thenRet ?_
            refine way_thenRet ?_
            refine way_blockRet ?_
            refine way_thenRet ?_
            exact Ends.plainI _ rfl (by grind [Prg.check])
          · refine twp_skip ?_
            refine way_block ?_
            refine way_then ?_
            refine twp_norm [1, 3] (sub_mptr rfl (sub_d rfl .nil)) (blk_box rfl (blk_nil rfl)) ?_
            refine twp_region ?_
            refine s_rd _ rfl (mv_d (.inl rfl) rfl) ?_
            refine s_rd _ rfl (arith_ok rfl rfl rfl rfl (by omega)) ?_
            refine s_rd _ rfl (mv_d (.inr rfl) rfl) ?_
            refine tops_nil ?_
            refine way_then ?_
            exact ⟨(i + 1), [0], by decide, (fun i hi => absurd hi (Nat.not_lt_zero i)), ⟨by omega, allTo_succ hinv hr (by simpa using hfa)⟩, (by omega), rfl⟩
        · have hge : ¬ i < p.rungs.length := by simpa using hlt
          have hi : i = p.rungs.length := by omega
          have hall := allTo_end hinv hge
          refine twp_exit ?_
          refine way_thenExit ?_
          refine way_thenExit ?_
          refine way_here ?_
          refine way_then ?_
          refine twp_norm [1] (sub_mptr rfl .nil) (blk_box rfl (blk_nil rfl)) ?_
          refine twp_seq ?_
          refine twp_rseq ?_
          refine s_rd _ rfl (mv_d (.inr rfl) rfl) ?_
          refine tops_nil ?_
          refine twp_norm [1, 4] (sub_mptr rfl (sub_d rfl .nil)) (blk_box rfl (blk_nil rfl)) ?_
          refine twp_block ?_
          refine twp_whileK (fun i => ([(4, .d (.int .i64 ((i : Nat) : Int)))] : Fr)) (fun i => ([] : List (Nat × Blk))) (fun i => i ≤ p.rungs.length ∧ (((p.rungs.map Rung.var).take i).Nodup)) (fun i => p.rungs.length - i) [4] [1] [0] 0 (by decide) (fun i hi => absurd hi (Nat.not_lt_zero i)) ⟨Nat.zero_le _, (by rw [List.take_zero]; exact List.nodup_nil)⟩ (sub_mptr rfl .nil) rfl rfl (blk_box rfl (blk_nil rfl)) rfl ?_
          rintro i ⟨hok, hinv⟩
          refine twp_norm [4, 1] (sub_d rfl (sub_mptr rfl .nil)) (blk_box rfl (blk_nil rfl)) ?_
          refine twp_seq ?_
          refine twp_rseq ?_
          refine s_rd _ rfl (mv_d (.inl rfl) rfl) ?_
          refine s_rd _ rfl (fieldAddr_mptr rfl fld25_2 rfl rfl) ?_
          refine s_rd _ rfl (by first | exact load_box_d rfl lay23 rfl rfl rfl | exact load_box rfl lay23 rfl rfl rfl) ?_
          refine s_rd _ rfl (by first | exact len_d rfl sel23 rfl (by first | exact List.length_map _ | rfl) | exact len_msl rfl sel23 rfl | exact len_nil rfl sel23 rfl) ?_
          refine s_rd _ rfl (cmp_int rfl rfl rfl rfl) ?_
          refine tops_nil ?_
          refine twp_norm [1, 4, 40] (sub_mptr rfl (sub_d rfl (sub_d rfl .nil))) (blk_box rfl (blk_nil rfl)) ?_
          refine twp_cond _ rfl (fun hlt => ?_) (fun hlt => ?_)
          · have hlt : i < p.rungs.length := by simpa using hlt
            obtain ⟨r, hr⟩ : ∃ x, (p.rungs)[i]? = some x := ⟨_, List.getElem?_eq_getElem (by first | exact hlt | omega | (simp; omega))⟩
            refine twp_skip ?_
            refine way_then ?_
            refine twp_norm [1, 4] (sub_mptr rfl (sub_d rfl .nil)) (blk_box rfl (blk_nil rfl)) ?_
            refine twp_seq ?_
            refine twp_block ?_
            refine twp_rseq ?_
            refine s_rd _ rfl (mv_d (.inr rfl) rfl) ?_
            refine tops_nil ?_
            refine twp_norm [1, 4, 5] (sub_mptr rfl (sub_d rfl (sub_d rfl .nil))) (blk_box rfl (blk_nil rfl)) ?_
            refine twp_block ?_
            refine twp_whileK (fun k => ([(5, .d (.int .i64 ((k : Nat) : Int)))] : Fr)) (fun k => ([] : List (Nat × Blk))) (fun k => k ≤ i ∧ (r.var ∉ (p.rungs.map Rung.var).take k)) (fun k => i - k) [5] [1, 4] [0] 0 (by decide) (fun i hi => absurd hi (Nat.not_lt_zero i)) ⟨Nat.zero_le _, (by rw [List.take_zero]; exact List.not_mem_nil)⟩ (sub_mptr rfl (sub_d rfl .nil)) rfl rfl (blk_box rfl (blk_nil rfl)) rfl ?_
            rintro k ⟨hok, hnot⟩
            refine twp_norm [5, 1, 4] (sub_d rfl (sub_mptr rfl (sub_d rfl .nil))) (blk_box rfl (blk_nil rfl)) ?_
            refine twp_seq ?_
            refine twp_rseq ?_
            refine s_rd _ rfl (mv_d (.inl rfl) rfl) ?_
            refine s_rd _ rfl (mv_d (.inl rfl) rfl) ?_
            refine s_rd _ rfl (cmp_int rfl rfl rfl rfl) ?_
            refine tops_nil ?_
            refine twp_norm [1, 4, 5, 45] (sub_mptr rfl (sub_d rfl (sub_d rfl (sub_d rfl .nil)))) (blk_box rfl (blk_nil rfl)) ?_
            refine twp_cond _ rfl (fun hlt => ?_) (fun hlt => ?_)
            · have hlt : k < i := by simpa using hlt
              obtain ⟨q, hq⟩ : ∃ x, (p.rungs)[k]? = some x := ⟨_, List.getElem?_eq_getElem (by first | exact hlt | omega | (simp; omega))⟩
              refine twp_skip ?_
              refine way_then ?_
              refine twp_norm [1, 4, 5] (sub_mptr rfl (sub_d rfl (sub_d rfl .nil))) (blk_box rfl (blk_nil rfl)) ?_
              refine twp_seq ?_
              refine twp_block ?_
              refine twp_dseq follows  ?_
              refine d_rd [] _ rfl rfl (fieldAddr_mptr rfl fld25_2 rfl rfl) ?_
              first | refine d_rd [] _ rfl rfl (by first | exact load_box_d rfl lay23 rfl rfl rfl | exact load_box rfl lay23 rfl rfl rfl) ?_ | refine d_rd [0] _ rfl rfl (by first | exact load_box_d rfl lay23 rfl rfl rfl | exact load_box rfl lay23 rfl rfl rfl) ?_ | refine d_rd [1] _ rfl rfl (by first | exact load_box_d rfl lay23 rfl rfl rfl | exact load_box rfl lay23 rfl rfl rfl) ?_ | refine d_rd [2] _ rfl rfl (by first | exact load_box_d rfl lay23 rfl rfl rfl | exact load_box rfl lay23 rfl rfl rfl) ?_ | refine d_rd [3] _ rfl rfl (by first | exact load_box_d rfl lay23 rfl rfl rfl | exact load_box rfl lay23 rfl rfl rfl) ?_ | refine d_rd [0, 1] _ rfl rfl (by first | exact load_box_d rfl lay23 rfl rfl rfl | exact load_box rfl lay23 rfl rfl rfl) ?_
              refine d_rd [] _ rfl rfl (mv_d (.inl rfl) rfl) ?_
              refine d_rd [] _ rfl rfl (by first | exact index_msl0 rfl sel23 rfl rfl (by first | assumption | omega | (simp; omega)) | exact index_sl rfl sel23 rfl rfl (by first | exact ⟨by omega, by assumption⟩ | exact idx_map (by assumption) | exact idx_id (by assumption))) ?_
              refine d_rd [] _ rfl rfl (by first | exact fieldAddr_ptr rfl fld50_1 rfl rfl | exact fieldAddr_mptr rfl fld50_1 rfl rfl) ?_
              first | refine d_rd [] _ rfl rfl (by first | exact load_ptr rfl lay3 rfl rfl | exact load_flat rfl lay3 rfl rfl (by first | rfl | assumption | (simp only [List.getElem?_map, Option.map_some, *]; done)) rfl | exact load_box_d rfl lay3 rfl rfl rfl | exact load_box rfl lay3 rfl rfl rfl) ?_ | refine d_rd [0] _ rfl rfl (by first | exact load_ptr rfl lay3 rfl rfl | exact load_flat rfl lay3 rfl rfl (by first | rfl | assumption | (simp only [List.getElem?_map, Option.map_some, *]; done)) rfl | exact load_box_d rfl lay3 rfl rfl rfl | exact load_box rfl lay3 rfl rfl rfl) ?_ | refine d_rd [1] _ rfl rfl (by first | exact load_ptr rfl lay3 rfl rfl | exact load_flat rfl lay3 rfl rfl (by first | rfl | assumption | (simp only [List.getElem?_map, Option.map_some, *]; done)) rfl | exact load_box_d rfl lay3 rfl rfl rfl | exact load_box rfl lay3 rfl rfl rfl) ?_ | refine d_rd [2] _ rfl rfl (by first | exact load_ptr rfl lay3 rfl rfl | exact load_flat rfl lay3 rfl rfl (by first | rfl | assumption | (simp only [List.getElem?_map, Option.map_some, *]; done)) rfl | exact load_box_d rfl lay3 rfl rfl rfl | exact load_box rfl lay3 rfl rfl rfl) ?_ | refine d_rd [3] _ rfl rfl (by first | exact load_ptr rfl lay3 rfl rfl | exact load_flat rfl lay3 rfl rfl (by first | rfl | assumption | (simp only [List.getElem?_map, Option.map_some, *]; done)) rfl | exact load_box_d rfl lay3 rfl rfl rfl | exact load_box rfl lay3 rfl rfl rfl) ?_ | refine d_rd [0, 1] _ rfl rfl (by first | exact load_ptr rfl lay3 rfl rfl | exact load_flat rfl lay3 rfl rfl (by first | rfl | assumption | (simp only [List.getElem?_map, Option.map_some, *]; done)) rfl | exact load_box_d rfl lay3 rfl rfl rfl | exact load_box rfl lay3 rfl rfl rfl) ?_
              refine d_rd [] _ rfl rfl (fieldAddr_mptr rfl fld25_2 rfl rfl) ?_
              first | refine d_rd [] _ rfl rfl (by first | exact load_box_d rfl lay23 rfl rfl rfl | exact load_box rfl lay23 rfl rfl rfl) ?_ | refine d_rd [0] _ rfl rfl (by first | exact load_box_d rfl lay23 rfl rfl rfl | exact load_box rfl lay23 rfl rfl rfl) ?_ | refine d_rd [1] _ rfl rfl (by first | exact load_box_d rfl lay23 rfl rfl rfl | exact load_box rfl lay23 rfl rfl rfl) ?_ | refine d_rd [2] _ rfl rfl (by first | exact load_box_d rfl lay23 rfl rfl rfl | exact load_box rfl lay23 rfl rfl rfl) ?_ | refine d_rd [3] _ rfl rfl (by first | exact load_box_d rfl lay23 rfl rfl rfl | exact load_box rfl lay23 rfl rfl rfl) ?_ | refine d_rd [0, 1] _ rfl rfl (by first | exact load_box_d rfl lay23 rfl rfl rfl | exact load_box rfl lay23 rfl rfl rfl) ?_
              refine d_rd [] _ rfl rfl (mv_d (.inl rfl) rfl) ?_
              refine d_rd [] _ rfl rfl (by first | exact index_msl0 rfl sel23 rfl rfl (by first | assumption | omega | (simp; omega)) | exact index_sl rfl sel23 rfl rfl (by first | exact ⟨by omega, by assumption⟩ | exact idx_map (by assumption) | exact idx_id (by assumption))) ?_
              refine d_rd [] _ rfl rfl (by first | exact fieldAddr_ptr rfl fld50_1 rfl rfl | exact fieldAddr_mptr rfl fld50_1 rfl rfl) ?_
              first | refine d_rd [] _ rfl rfl (by first | exact load_ptr rfl lay3 rfl rfl | exact load_flat rfl lay3 rfl rfl (by first | rfl | assumption | (simp only [List.getElem?_map, Option.map_some, *]; done)) rfl | exact load_box_d rfl lay3 rfl rfl rfl | exact load_box rfl lay3 rfl rfl rfl) ?_ | refine d_rd [0] _ rfl rfl (by first | exact load_ptr rfl lay3 rfl rfl | exact load_flat rfl lay3 rfl rfl (by first | rfl | assumption | (simp only [List.getElem?_map, Option.map_some, *]; done)) rfl | exact load_box_d rfl lay3 rfl rfl rfl | exact load_box rfl lay3 rfl rfl rfl) ?_ | refine d_rd [1] _ rfl rfl (by first | exact load_ptr rfl lay3 rfl rfl | exact load_flat rfl lay3 rfl rfl (by first | rfl | assumption | (simp only [List.getElem?_map, Option.map_some, *]; done)) rfl | exact load_box_d rfl lay3 rfl rfl rfl | exact load_box rfl lay3 rfl rfl rfl) ?_ | refine d_rd [2] _ rfl rfl (by first | exact load_ptr rfl lay3 rfl rfl | exact load_flat rfl lay3 rfl rfl (by first | rfl | assumption | (simp only [List.getElem?_map, Option.map_some, *]; done)) rfl | exact load_box_d rfl lay3 rfl rfl rfl | exact load_box rfl lay3 rfl rfl rfl) ?_ | refine d_rd [3] _ rfl rfl (by first | exact load_ptr rfl lay3 rfl rfl | exact load_flat rfl lay3 rfl rfl (by first | rfl | assumption | (simp only [List.getElem?_map, Option.map_some, *]; done)) rfl | exact load_box_d rfl lay3 rfl rfl rfl | exact load_box rfl lay3 rfl rfl rfl) ?_ | refine d_rd [0, 1] _ rfl rfl (by first | exact load_ptr rfl lay3 rfl rfl | exact load_flat rfl lay3 rfl rfl (by first | rfl | assumption | (simp only [List.getElem?_map, Option.map_some, *]; done)) rfl | exact load_box_d rfl lay3 rfl rfl rfl | exact load_box rfl lay3 rfl rfl rfl) ?_
              refine d_rd [] _ rfl rfl (cmp_int rfl rfl rfl rfl) ?_
              refine d_tail ?_ (by kernel_rfl)
              refine tops_nil ?_
              refine twp_norm [1, 4, 5, 60] (sub_mptr rfl (sub_d rfl (sub_d rfl (sub_d rfl .nil)))) (blk_box rfl (blk_nil rfl)) ?_
              refine twp_cond _ rfl (fun hm => ?_) (fun hm => ?_)
              · have hm := of_decide_eq_true hm
                have hdup : ¬ (p.rungs.map Rung.var).Nodup := dup_at hr (by rw [← hm]; exact List.mem_of_getElem? (i := k) (by rw [List.getElem?_take, if_pos hlt]; simp [hq]))
                refine twp_rseq ?_
                refine s_rd _ rfl (mv_d (.inr rfl) rfl) ?_
                refine tops_nil ?_
                refine twp_norm [2] (sub_d rfl .nil) (blk_box rfl (blk_nil rfl)) ?_
                refine twp_ret ?_
                refine way_blockRet ?_
                refine way_thenRet ?_
                refine way_thenRet ?_
                refine way_blockRet ?_
                refine way_blockRet ?_
                refine way_thenRet ?_
                refine way_thenRet ?_
                refine way_blockRet ?_
                refine way_thenRet ?_
                exact Ends.plainI _ rfl (by grind [Prg.check])
              · have hm := of_decide_eq_false hm
                have hnext : r.var ∉ (p.rungs.map Rung.var).take (k + 1) := by rw [vars_succ hq]; simp only [List.mem_append, List.mem_singleton, not_or]; exact ⟨hnot, fun e => hm e.symm⟩
                refine twp_skip ?_
                refine way_block ?_
                refine way_then ?_
                refine twp_norm [1, 4, 5] (sub_mptr rfl (sub_d rfl (sub_d rfl .nil))) (blk_box rfl (blk_nil rfl)) ?_
                refine twp_region ?_
                refine s_rd _ rfl (mv_d (.inl rfl) rfl) ?_
                refine s_rd _ rfl (arith_ok rfl rfl rfl rfl (by omega)) ?_
                refine s_rd _ rfl (mv_d (.inr rfl) rfl) ?_
                refine tops_nil ?_
                refine way_then ?_
                exact ⟨(k + 1), [0], by decide, (fun i hi => absurd hi (Nat.not_lt_zero i)), ⟨by omega, hnext⟩, (by omega), rfl⟩
            · have hge : ¬ k < i := by simpa using hlt
              have hi : k = i := by omega
              have hnd : ((p.rungs.map Rung.var).take (i + 1)).Nodup := by rw [vars_succ hr]; exact nodup_snoc.2 ⟨hinv, hi ▸ hnot⟩
              refine twp_exit ?_
              refine way_thenExit ?_
              refine way_thenExit ?_
              refine way_here ?_
              refine way_block ?_
              refine way_then ?_
              refine twp_norm [1, 4] (sub_mptr rfl (sub_d rfl .nil)) (blk_box rfl (blk_nil rfl)) ?_
              refine twp_region ?_
              refine s_rd _ rfl (mv_d (.inl rfl) rfl) ?_
              refine s_rd _ rfl (arith_ok rfl rfl rfl rfl (by omega)) ?_
              refine s_rd _ rfl (mv_d (.inr rfl) rfl) ?_
              refine tops_nil ?_
              refine way_then ?_
              exact ⟨(i + 1), [0], by decide, (fun i hi => absurd hi (Nat.not_lt_zero i)), ⟨by omega, hnd⟩, (by omega), rfl⟩
          · have hge : ¬ i < p.rungs.length := by simpa using hlt
            have hi : i = p.rungs.length := by omega
            have hnd : (p.rungs.map Rung.var).Nodup := by rw [hi] at hinv; rwa [List.take_of_length_le (by simp)] at hinv
            refine twp_exit ?_
            refine way_thenExit ?_
            refine way_thenExit ?_
            refine way_here ?_
            refine way_then ?_
            refine twp_norm [] .nil (blk_box rfl (blk_nil rfl)) ?_
            refine twp_rseq ?_
            refine s_rd _ rfl (mv_d (.inr rfl) rfl) ?_
            refine tops_nil ?_
            refine twp_norm [2] (sub_d rfl .nil) (blk_box rfl (blk_nil rfl)) ?_
            refine twp_ret ?_
            exact Ends.plainI _ rfl (by grind [Prg.check])

theorem checkP_n (p : Prg) (hp : p.Wf) : RetN Try.prog 11 [p.enc] (.int .i64 p.check) := .unit (checkP_step p hp) rfl
theorem checkR_n (p : Prg) (hp : p.Wf) (hs : ∀ r ∈ p.rungs, r.expr.size ≤ 1000000) : RetN Try.prog 12 [p.enc] (.int .i64 p.check) := .unit (checkR_step p hp hs) rfl

end Go.Proofs.Yteedddlipoonoaa
