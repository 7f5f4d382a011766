/- Expressions: what the reference computes of them, walked. No condition. -/
import Derived.Test.YteedddlipoonoaaPlcE
import Derived.KernelRfl
set_option linter.unusedSimpArgs false
set_option linter.unusedVariables false
namespace Go.Proofs.Yteedddlipoonoaa
open Go Go.TL

theorem callB43 : callB Try.prog 43 = true := by kernel_rfl

theorem fld47_2 : fld Try.prog 47 2 = some 2 := by kernel_rfl

theorem lay45 : lay Try.prog 45 = some (false, 1) := by kernel_rfl

theorem sel45 : sel Try.prog 45 = some (47, 3, 40) := by kernel_rfl

theorem lay47 : lay Try.prog 47 = some (true, 3) := by kernel_rfl

theorem size_step (e : Ex) (hn : e.size ≤ 1000000) (ih : ∀ a ∈ e.args, a.size ≤ 1000000 → RetN Try.prog 43 [a.enc] (.int .i64 ((a.size : Nat) : Int))) : Ret Try.prog 43 [] (fun _ => false) ([e.enc].map .d) (.d (.int .i64 ((e.size : Nat) : Int))) [] := by
  have hlen := Ex.length_le e.args
  have hse0 := Ex.size_eq e
  refine ret_body callB43 Try.func43 rfl Try.ntmps43 rfl rfl (fun wX gX => ?_)
  refine twp_norm [0] (sub_d rfl .nil) (blk_nil rfl) ?_
  refine twp_rseq ?_
  refine s_boxA rfl rfl rfl ?_
  refine s_eq 1 (.mptr 0 0 0 0) rfl rfl ?_
  refine s_rd _ rfl (mv_d (.inr rfl) rfl) ?_
  refine tops_nil ?_
  refine twp_norm [1] (sub_mptr rfl .nil) (blk_boxN rfl (by repeat (first | exact NormC.nil rfl | apply nc_d rfl | apply nc_msl rfl | apply nc_mptr rfl | apply nc_fnc rfl)) (blk_nil rfl)) ?_
  refine twp_rseq ?_
  refine s_rd _ rfl (mv_d (.inr rfl) rfl) ?_
  refine tops_nil ?_
  refine twp_norm [1, 3] (sub_mptr rfl (sub_d rfl .nil)) (blk_box rfl (blk_nil rfl)) ?_
  refine twp_seq ?_
  refine twp_rseq ?_
  refine s_rd _ rfl (mv_d (.inr rfl) rfl) ?_
  refine tops_nil ?_
  refine twp_norm [1, 3, 4] (sub_mptr rfl (sub_d rfl (sub_d rfl .nil))) (blk_box rfl (blk_nil rfl)) ?_
  refine twp_block ?_
  refine twp_whileK (fun i => ([(3, .d (.int .i64 ((1 + Ex.sizes (e.args.take i) : Nat) : Int))), (4, .d (.int .i64 ((i : Nat) : Int)))] : Fr)) (fun i => ([] : List (Nat × Blk))) (fun i => i ≤ e.args.length) (fun i => e.args.length - i) [3, 4] [1] [0] 0 (by decide) (fun i hi => absurd hi (Nat.not_lt_zero i)) (Nat.zero_le _) (sub_mptr rfl .nil) rfl rfl (blk_box rfl (blk_nil rfl)) rfl ?_
  rintro i hok
  refine twp_norm [3, 4, 1] (sub_d rfl (sub_d rfl (sub_mptr rfl .nil))) (blk_box rfl (blk_nil rfl)) ?_
  refine twp_seq ?_
  refine twp_rseq ?_
  refine s_rd _ rfl (mv_d (.inl rfl) rfl) ?_
  refine s_rd _ rfl (fieldAddr_mptr rfl fld47_2 rfl rfl) ?_
  refine s_rd _ rfl (by first | exact load_box_d rfl lay45 rfl rfl rfl | exact load_box rfl lay45 rfl rfl rfl) ?_
  refine s_rd _ rfl (by first | exact len_d rfl sel45 rfl (by first | exact List.length_map _ | exact Ex.encs_length _ | rfl) | exact len_msl rfl sel45 rfl | exact len_nil rfl sel45 rfl) ?_
  refine s_rd _ rfl (cmp_int rfl rfl rfl rfl) ?_
  refine tops_nil ?_
  refine twp_norm [1, 3, 4, 9] (sub_mptr rfl (sub_d rfl (sub_d rfl (sub_d rfl .nil)))) (blk_box rfl (blk_nil rfl)) ?_
  refine twp_cond _ rfl (fun hlt => ?_) (fun hlt => ?_)
  · have hlt : i < e.args.length := by simpa using hlt
    obtain ⟨a, ha⟩ : ∃ x, (e.args)[i]? = some x := ⟨_, List.getElem?_eq_getElem (by first | exact hlt | omega | (simp; omega))⟩
    have hsz := Ex.sizes_succ ha
    have hsp := Ex.sizes_split e.args (i + 1)
    have hse := Ex.size_eq e
    refine twp_skip ?_
    refine way_then ?_
    refine twp_norm [1, 3, 4] (sub_mptr rfl (sub_d rfl (sub_d rfl .nil))) (blk_box rfl (blk_nil rfl)) ?_
    refine twp_seq ?_
    refine twp_block ?_
    refine twp_region ?_
    refine s_rd _ rfl (mv_d (.inl rfl) rfl) ?_
    refine s_rd _ rfl (fieldAddr_mptr rfl fld47_2 rfl rfl) ?_
    refine s_rd _ rfl (by first | exact load_box_d rfl lay45 rfl rfl rfl | exact load_box rfl lay45 rfl rfl rfl) ?_
    refine s_rd _ rfl (mv_d (.inl rfl) rfl) ?_
    refine s_rd _ rfl (by first | exact index_msl0 rfl sel45 rfl rfl (by first | assumption | omega | (simp; omega)) | exact index_sl rfl sel45 rfl rfl (Ex.idx_encs ha)) ?_
    refine s_rd _ rfl (by first | exact load_ptrW rfl lay47 rfl rfl rfl | exact load_flatW rfl lay47 rfl rfl (by first | rfl | assumption | (simp only [List.getElem?_map, Option.map_some, *]; done)) rfl rfl | exact load_boxA_d rfl lay47 rfl rfl (Nat.le_of_ble_eq_true rfl) rfl | exact load_boxA rfl lay47 rfl rfl (Nat.le_of_ble_eq_true rfl) rfl | exact load_ptrA rfl lay47 rfl (Nat.le_of_ble_eq_true rfl) rfl) ?_
    refine s_rd _ rfl (rd_callRN rfl rfl (by repeat (first | exact snaps_nil | refine snaps_cons (.d _) ?_ | refine snaps_cons (snap_full rfl (by simp)) ?_ | refine snaps_cons (snap_full rfl rfl) ?_ | refine snaps_cons (snap_boxD rfl rfl) ?_ | refine snaps_cons (snap_agg (by repeat (first | exact SnapsO.nil | refine SnapsO.cons (Snap.d _) rfl ?_ | refine SnapsO.cons (snap_full rfl rfl) rfl ?_))) ?_)) (ih a (List.mem_of_getElem? ha) (by omega))) ?_
    refine s_rd _ rfl (arith_to (r := ((1 + Ex.sizes (e.args.take (i + 1)) : Nat) : Int)) rfl rfl rfl rfl (by rw [hsz]; omega) (by omega)) ?_
    refine s_rd _ rfl (mv_d (.inr rfl) rfl) ?_
    refine tops_nil ?_
    refine way_block ?_
    refine way_then ?_
    refine twp_norm [1, 3, 4] (sub_mptr rfl (sub_d rfl (sub_d rfl .nil))) (blk_box rfl (blk_nil rfl)) ?_
    refine twp_region ?_
    refine s_rd _ rfl (mv_d (.inl rfl) rfl) ?_
    refine s_rd _ rfl (arith_ok rfl rfl rfl rfl (by omega)) ?_
    refine s_rd _ rfl (mv_d (.inr rfl) rfl) ?_
    refine tops_nil ?_
    refine way_then ?_
    exact ⟨(i + 1), [0], by decide, (fun i hi => absurd hi (Nat.not_lt_zero i)), (by omega), (by omega), rfl⟩
  · have hge : ¬ i < e.args.length := by simpa using hlt
    have hi : i = e.args.length := by omega
    refine twp_exit ?_
    refine way_thenExit ?_
    refine way_thenExit ?_
    refine way_here ?_
    refine way_then ?_
    refine twp_norm [3] (sub_d rfl .nil) (blk_box rfl (blk_nil rfl)) ?_
    refine twp_rseq ?_
    refine s_rd _ rfl (mv_d (.inl rfl) rfl) ?_
    refine s_rd _ rfl (mv_d (.inr rfl) rfl) ?_
    refine tops_nil ?_
    refine twp_norm [2] (sub_d rfl .nil) (blk_box rfl (blk_nil rfl)) ?_
    refine twp_ret ?_
    exact Ends.plainI _ rfl (by rw [hi, List.take_length, Ex.size_eq])

theorem size_n : ∀ e : Ex, e.size ≤ 1000000 → RetN Try.prog 43 [e.enc] (.int .i64 ((e.size : Nat) : Int)) := Ex.ind fun e ih hn => .unit (size_step e hn ih) rfl

theorem callB44 : callB Try.prog 44 = true := by kernel_rfl

theorem depth_step (e : Ex) (hn : e.size ≤ 1000000) (ih : ∀ a ∈ e.args, a.size ≤ 1000000 → RetN Try.prog 44 [a.enc] (.int .i64 ((a.depth : Nat) : Int))) : Ret Try.prog 44 [] (fun _ => false) ([e.enc].map .d) (.d (.int .i64 ((e.depth : Nat) : Int))) [] := by
  have hlen := Ex.length_le e.args
  have hse0 := Ex.size_eq e
  refine ret_body callB44 Try.func44 rfl Try.ntmps44 rfl rfl (fun wX gX => ?_)
  refine twp_norm [0] (sub_d rfl .nil) (blk_nil rfl) ?_
  refine twp_rseq ?_
  refine s_boxA rfl rfl rfl ?_
  refine s_eq 1 (.mptr 0 0 0 0) rfl rfl ?_
  refine s_rd _ rfl (mv_d (.inr rfl) rfl) ?_
  refine tops_nil ?_
  refine twp_norm [1] (sub_mptr rfl .nil) (blk_boxN rfl (by repeat (first | exact NormC.nil rfl | apply nc_d rfl | apply nc_msl rfl | apply nc_mptr rfl | apply nc_fnc rfl)) (blk_nil rfl)) ?_
  refine twp_rseq ?_
  refine s_rd _ rfl (mv_d (.inr rfl) rfl) ?_
  refine tops_nil ?_
  refine twp_norm [1, 3] (sub_mptr rfl (sub_d rfl .nil)) (blk_box rfl (blk_nil rfl)) ?_
  refine twp_seq ?_
  refine twp_rseq ?_
  refine s_rd _ rfl (mv_d (.inr rfl) rfl) ?_
  refine tops_nil ?_
  refine twp_norm [1, 3, 4] (sub_mptr rfl (sub_d rfl (sub_d rfl .nil))) (blk_box rfl (blk_nil rfl)) ?_
  refine twp_block ?_
  refine twp_whileK (fun i => ([(3, .d (.int .i64 ((Ex.depths (e.args.take i) : Nat) : Int))), (4, .d (.int .i64 ((i : Nat) : Int)))] : Fr)) (fun i => ([] : List (Nat × Blk))) (fun i => i ≤ e.args.length) (fun i => e.args.length - i) [3, 4] [1] [0] 0 (by decide) (fun i hi => absurd hi (Nat.not_lt_zero i)) (Nat.zero_le _) (sub_mptr rfl .nil) rfl rfl (blk_box rfl (blk_nil rfl)) rfl ?_
  rintro i hok
  refine twp_norm [3, 4, 1] (sub_d rfl (sub_d rfl (sub_mptr rfl .nil))) (blk_box rfl (blk_nil rfl)) ?_
  refine twp_seq ?_
  refine twp_rseq ?_
  refine s_rd _ rfl (mv_d (.inl rfl) rfl) ?_
  refine s_rd _ rfl (fieldAddr_mptr rfl fld47_2 rfl rfl) ?_
  refine s_rd _ rfl (by first | exact load_box_d rfl lay45 rfl rfl rfl | exact load_box rfl lay45 rfl rfl rfl) ?_
  refine s_rd _ rfl (by first | exact len_d rfl sel45 rfl (by first | exact List.length_map _ | exact Ex.encs_length _ | rfl) | exact len_msl rfl sel45 rfl | exact len_nil rfl sel45 rfl) ?_
  refine s_rd _ rfl (cmp_int rfl rfl rfl rfl) ?_
  refine tops_nil ?_
  refine twp_norm [1, 3, 4, 9] (sub_mptr rfl (sub_d rfl (sub_d rfl (sub_d rfl .nil)))) (blk_box rfl (blk_nil rfl)) ?_
  refine twp_cond _ rfl (fun hlt => ?_) (fun hlt => ?_)
  · have hlt : i < e.args.length := by simpa using hlt
    obtain ⟨a, ha⟩ : ∃ x, (e.args)[i]? = some x := ⟨_, List.getElem?_eq_getElem (by first | exact hlt | omega | (simp; omega))⟩
    refine twp_skip ?_
    refine way_then ?_
    refine twp_norm [1, 3, 4] (sub_mptr rfl (sub_d rfl (sub_d rfl .nil))) (blk_box rfl (blk_nil rfl)) ?_
    refine twp_seq ?_
    refine twp_block ?_
    refine twp_region ?_
    refine s_rd _ rfl (mv_d (.inl rfl) rfl) ?_
    refine s_rd _ rfl (fieldAddr_mptr rfl fld47_2 rfl rfl) ?_
    refine s_rd _ rfl (by first | exact load_box_d rfl lay45 rfl rfl rfl | exact load_box rfl lay45 rfl rfl rfl) ?_
    refine s_rd _ rfl (mv_d (.inl rfl) rfl) ?_
    refine s_rd _ rfl (by first | exact index_msl0 rfl sel45 rfl rfl (by first | assumption | omega | (simp; omega)) | exact index_sl rfl sel45 rfl rfl (Ex.idx_encs ha)) ?_
    refine s_rd _ rfl (by first | exact load_ptrW rfl lay47 rfl rfl rfl | exact load_flatW rfl lay47 rfl rfl (by first | rfl | assumption | (simp only [List.getElem?_map, Option.map_some, *]; done)) rfl rfl | exact load_boxA_d rfl lay47 rfl rfl (Nat.le_of_ble_eq_true rfl) rfl | exact load_boxA rfl lay47 rfl rfl (Nat.le_of_ble_eq_true rfl) rfl | exact load_ptrA rfl lay47 rfl (Nat.le_of_ble_eq_true rfl) rfl) ?_
    refine s_rd _ rfl (rd_callRN rfl rfl (by repeat (first | exact snaps_nil | refine snaps_cons (.d _) ?_ | refine snaps_cons (snap_full rfl (by simp)) ?_ | refine snaps_cons (snap_full rfl rfl) ?_ | refine snaps_cons (snap_boxD rfl rfl) ?_ | refine snaps_cons (snap_agg (by repeat (first | exact SnapsO.nil | refine SnapsO.cons (Snap.d _) rfl ?_ | refine SnapsO.cons (snap_full rfl rfl) rfl ?_))) ?_)) (ih a (List.mem_of_getElem? ha) (by have := Ex.sizes_mem (List.mem_of_getElem? ha); omega))) ?_
    refine s_rd _ rfl (rd_max rfl rfl rfl (by rw [Ex.depths_succ ha]; omega : _ = ((Ex.depths (e.args.take (i + 1)) : Nat) : Int))) ?_
    refine s_rd _ rfl (mv_d (.inr rfl) rfl) ?_
    refine tops_nil ?_
    refine way_block ?_
    refine way_then ?_
    refine twp_norm [1, 3, 4] (sub_mptr rfl (sub_d rfl (sub_d rfl .nil))) (blk_box rfl (blk_nil rfl)) ?_
    refine twp_region ?_
    refine s_rd _ rfl (mv_d (.inl rfl) rfl) ?_
    refine s_rd _ rfl (arith_ok rfl rfl rfl rfl (by omega)) ?_
    refine s_rd _ rfl (mv_d (.inr rfl) rfl) ?_
    refine tops_nil ?_
    refine way_then ?_
    exact ⟨(i + 1), [0], by decide, (fun i hi => absurd hi (Nat.not_lt_zero i)), (by omega), (by omega), rfl⟩
  · have hge : ¬ i < e.args.length := by simpa using hlt
    have hi : i = e.args.length := by omega
    have hdep := Ex.depth_eq e
    rw [← List.take_length (l := e.args), ← hi] at hdep
    have hdl := Ex.depth_le_size e
    refine twp_exit ?_
    refine way_thenExit ?_
    refine way_thenExit ?_
    refine way_here ?_
    refine way_then ?_
    refine twp_norm [3] (sub_d rfl .nil) (blk_box rfl (blk_nil rfl)) ?_
    refine twp_rseq ?_
    refine s_rd _ rfl (mv_d (.inl rfl) rfl) ?_
    refine s_rd _ rfl (arith_ok rfl rfl rfl rfl (by omega)) ?_
    refine s_rd _ rfl (mv_d (.inr rfl) rfl) ?_
    refine tops_nil ?_
    refine twp_norm [2] (sub_d rfl .nil) (blk_box rfl (blk_nil rfl)) ?_
    refine twp_ret ?_
    exact Ends.plainI _ rfl (by omega)

theorem depth_n : ∀ e : Ex, e.size ≤ 1000000 → RetN Try.prog 44 [e.enc] (.int .i64 ((e.depth : Nat) : Int)) := Ex.ind fun e ih hn => .unit (depth_step e hn ih) rfl

theorem callB45 : callB Try.prog 45 = true := by kernel_rfl

theorem fld47_0 : fld Try.prog 47 0 = some 0 := by kernel_rfl

theorem lay3 : lay Try.prog 3 = some (false, 1) := by kernel_rfl

theorem fld47_1 : fld Try.prog 47 1 = some 1 := by kernel_rfl

theorem form_step (e : Ex) (n : Int) (hl : e.args.length ≤ 9223372036854775807) (ih : ∀ a ∈ e.args, a.Wf → RetN Try.prog 45 [a.enc, .int .i64 n] (.bool (a.form n))) (hw : e.Wf) : Ret Try.prog 45 [] (fun _ => false) ([e.enc, .int .i64 n].map .d) (.d (.bool (e.form n))) [] := by
  refine ret_body callB45 Try.func45 rfl Try.ntmps45 rfl rfl (fun wX gX => ?_)
  refine twp_norm [0, 1] (sub_d rfl (sub_d rfl .nil)) (blk_nil rfl) ?_
  refine twp_rseq ?_
  refine s_boxA rfl rfl rfl ?_
  refine s_eq 2 (.mptr 0 0 0 0) rfl rfl ?_
  refine s_rd _ rfl (mv_d (.inr rfl) rfl) ?_
  refine tops_nil ?_
  refine twp_norm [1, 2] (sub_d rfl (sub_mptr rfl .nil)) (blk_boxN rfl (by repeat (first | exact NormC.nil rfl | apply nc_d rfl | apply nc_msl rfl | apply nc_mptr rfl | apply nc_fnc rfl)) (blk_nil rfl)) ?_
  refine twp_rseq ?_
  refine s_rd _ rfl (fieldAddr_mptr rfl fld47_2 rfl rfl) ?_
  refine s_rd _ rfl (by first | exact load_box_d rfl lay45 rfl rfl rfl | exact load_box rfl lay45 rfl rfl rfl) ?_
  refine s_rd _ rfl (by first | exact len_d rfl sel45 rfl (by first | exact List.length_map _ | exact Ex.encs_length _ | rfl) | exact len_msl rfl sel45 rfl | exact len_nil rfl sel45 rfl) ?_
  refine s_rd _ rfl (mv_d (.inr rfl) rfl) ?_
  refine tops_nil ?_
  refine twp_norm [1, 2, 5] (sub_d rfl (sub_mptr rfl (sub_d rfl .nil))) (blk_box rfl (blk_nil rfl)) ?_
  refine twp_seq ?_
  refine twp_rseq ?_
  refine s_rd _ rfl (fieldAddr_mptr rfl fld47_0 rfl rfl) ?_
  refine s_rd _ rfl (by first | exact load_box_d rfl lay3 rfl rfl rfl | exact load_box rfl lay3 rfl rfl rfl) ?_
  refine tops_nil ?_
  refine twp_norm [1, 2, 5, 11] (sub_d rfl (sub_mptr rfl (sub_d rfl (sub_d rfl .nil)))) (blk_box rfl (blk_nil rfl)) ?_
  refine twp_block ?_
  refine twp_seq ?_
  refine twp_rseq ?_
  refine s_rd _ rfl (cmp_int rfl rfl rfl rfl) ?_
  refine s_rd _ rfl (mv_d (.inr rfl) rfl) ?_
  refine tops_nil ?_
  refine twp_norm [1, 2, 5, 11, 12] (sub_d rfl (sub_mptr rfl (sub_d rfl (sub_d rfl (sub_d rfl .nil))))) (blk_box rfl (blk_nil rfl)) ?_
  refine twp_cond _ rfl (fun h0 => ?_) (fun h0 => ?_)
  · have hk12 := h0
    refine twp_skip ?_
    refine way_then ?_
    refine twp_norm [1, 2, 5, 11, 12] (sub_d rfl (sub_mptr rfl (sub_d rfl (sub_d rfl (sub_d rfl .nil))))) (blk_box rfl (blk_nil rfl)) ?_
    refine twp_hyp rfl true hk12 ?_
    refine twp_rseq ?_
    refine s_rd _ rfl (fieldAddr_mptr rfl fld47_1 rfl rfl) ?_
    refine s_rd _ rfl (by first | exact load_box_d rfl lay3 rfl rfl rfl | exact load_box rfl lay3 rfl rfl rfl) ?_
    refine s_rd _ rfl (cmp_int rfl rfl rfl rfl) ?_
    refine s_rd _ rfl (mv_d (.inl rfl) rfl) ?_
    refine s_split 18 rfl (fun h2 => ?_) (fun h2 => ?_)
    · refine s_yes rfl rfl rfl ?_
      refine s_rd _ rfl (mv_d (.inl rfl) rfl) ?_
      refine s_yes rfl rfl rfl ?_
      refine s_rd _ rfl (cmp_int rfl rfl rfl rfl) ?_
      refine s_rd _ rfl (by first | exact pick_Td rfl rfl rfl | exact pick_T rfl rfl rfl) ?_
      refine s_rd _ rfl (mv_d (.inr rfl) rfl) ?_
      refine tops_nil ?_
      refine twp_norm [4] (sub_d rfl .nil) (blk_box rfl (blk_nil rfl)) ?_
      refine twp_ret ?_
      refine way_blockRet ?_
      refine way_thenRet ?_
      exact Ends.plainB _ rfl (by rw [Ex.form_eq e]; (first | rw [hno] | rw [hall] | skip); (try simp only [decide_eq_true_eq, decide_eq_false_iff_not] at *); (repeat split) <;> (first | omega | (simp; omega) | (simp_all; done) | (simp_all <;> omega)))
    · refine s_no rfl rfl rfl rfl ?_
      refine s_no rfl rfl rfl rfl ?_
      refine s_rd _ rfl (by first | exact pick_Fd rfl rfl rfl | exact pick_F rfl rfl rfl) ?_
      refine s_rd _ rfl (mv_d (.inr rfl) rfl) ?_
      refine tops_nil ?_
      refine twp_norm [4] (sub_d rfl .nil) (blk_box rfl (blk_nil rfl)) ?_
      refine twp_ret ?_
      refine way_blockRet ?_
      refine way_thenRet ?_
      exact Ends.plainB _ rfl (by rw [Ex.form_eq e]; (first | rw [hno] | rw [hall] | skip); (try simp only [decide_eq_true_eq, decide_eq_false_iff_not] at *); (repeat split) <;> (first | omega | (simp; omega) | (simp_all; done) | (simp_all <;> omega)))
  · refine twp_region ?_
    refine s_rd _ rfl (cmp_int rfl rfl rfl rfl) ?_
    refine s_rd _ rfl (mv_d (.inr rfl) rfl) ?_
    refine tops_nil ?_
    refine way_then ?_
    refine twp_norm [1, 2, 5, 11, 12] (sub_d rfl (sub_mptr rfl (sub_d rfl (sub_d rfl (sub_d rfl .nil))))) (blk_box rfl (blk_nil rfl)) ?_
    refine twp_cond _ rfl (fun h3 => ?_) (fun h3 => ?_)
    · refine twp_rseq ?_
      refine s_rd _ rfl (fieldAddr_mptr rfl fld47_1 rfl rfl) ?_
      refine s_rd _ rfl (by first | exact load_box_d rfl lay3 rfl rfl rfl | exact load_box rfl lay3 rfl rfl rfl) ?_
      refine s_rd _ rfl (cmp_int rfl rfl rfl rfl) ?_
      refine s_rd _ rfl (mv_d (.inl rfl) rfl) ?_
      refine s_split 18 rfl (fun h4 => ?_) (fun h4 => ?_)
      · refine s_yes rfl rfl rfl ?_
        refine s_rd _ rfl (mv_d (.inl rfl) rfl) ?_
        refine s_yes rfl rfl rfl ?_
        refine s_rd _ rfl (cmp_int rfl rfl rfl rfl) ?_
        refine s_rd _ rfl (by first | exact pick_Td rfl rfl rfl | exact pick_T rfl rfl rfl) ?_
        refine s_rd _ rfl (mv_d (.inr rfl) rfl) ?_
        refine tops_nil ?_
        refine twp_norm [4] (sub_d rfl .nil) (blk_box rfl (blk_nil rfl)) ?_
        refine twp_ret ?_
        refine way_blockRet ?_
        refine way_thenRet ?_
        exact Ends.plainB _ rfl (by rw [Ex.form_eq e]; (first | rw [hno] | rw [hall] | skip); (try simp only [decide_eq_true_eq, decide_eq_false_iff_not] at *); (repeat split) <;> (first | omega | (simp; omega) | (simp_all; done) | (simp_all <;> omega)))
      · refine s_no rfl rfl rfl rfl ?_
        refine s_no rfl rfl rfl rfl ?_
        refine s_rd _ rfl (by first | exact pick_Fd rfl rfl rfl | exact pick_F rfl rfl rfl) ?_
        refine s_rd _ rfl (mv_d (.inr rfl) rfl) ?_
        refine tops_nil ?_
        refine twp_norm [4] (sub_d rfl .nil) (blk_box rfl (blk_nil rfl)) ?_
        refine twp_ret ?_
        refine way_blockRet ?_
        refine way_thenRet ?_
        exact Ends.plainB _ rfl (by rw [Ex.form_eq e]; (first | rw [hno] | rw [hall] | skip); (try simp only [decide_eq_true_eq, decide_eq_false_iff_not] at *); (repeat split) <;> (first | omega | (simp; omega) | (simp_all; done) | (simp_all <;> omega)))
    · refine twp_rseq ?_
      refine s_rd _ rfl (cmp_int rfl rfl rfl rfl) ?_
      refine s_rd _ rfl (mv_d (.inr rfl) rfl) ?_
      refine tops_nil ?_
      refine twp_norm [1, 2, 5, 11, 22] (sub_d rfl (sub_mptr rfl (sub_d rfl (sub_d rfl (sub_d rfl .nil))))) (blk_box rfl (blk_nil rfl)) ?_
      refine twp_cond _ rfl (fun h5 => ?_) (fun h5 => ?_)
      · refine twp_rseq ?_
        refine s_rd _ rfl (fieldAddr_mptr rfl fld47_1 rfl rfl) ?_
        refine s_rd _ rfl (by first | exact load_box_d rfl lay3 rfl rfl rfl | exact load_box rfl lay3 rfl rfl rfl) ?_
        refine s_rd _ rfl (cmp_int rfl rfl rfl rfl) ?_
        refine s_rd _ rfl (mv_d (.inl rfl) rfl) ?_
        refine s_split 27 rfl (fun h6 => ?_) (fun h6 => ?_)
        · refine s_yes rfl rfl rfl ?_
          refine s_rd _ rfl (fieldAddr_mptr rfl fld47_1 rfl rfl) ?_
          refine s_yes rfl rfl rfl ?_
          refine s_rd _ rfl (by first | exact load_box_d rfl lay3 rfl rfl rfl | exact load_box rfl lay3 rfl rfl rfl) ?_
          refine s_yes rfl rfl rfl ?_
          refine s_rd _ rfl (mv_d (.inl rfl) rfl) ?_
          refine s_yes rfl rfl rfl ?_
          refine s_rd _ rfl (cmp_int rfl rfl rfl rfl) ?_
          refine s_rd _ rfl (by first | exact pick_Td rfl rfl rfl | exact pick_T rfl rfl rfl) ?_
          refine s_rd _ rfl (mv_d (.inl rfl) rfl) ?_
          refine s_split 33 rfl (fun h7 => ?_) (fun h7 => ?_)
          · refine s_yes rfl rfl rfl ?_
            refine s_rd _ rfl (mv_d (.inl rfl) rfl) ?_
            refine s_yes rfl rfl rfl ?_
            refine s_rd _ rfl (cmp_int rfl rfl rfl rfl) ?_
            refine s_rd _ rfl (by first | exact pick_Td rfl rfl rfl | exact pick_T rfl rfl rfl) ?_
            refine s_rd _ rfl (mv_d (.inr rfl) rfl) ?_
            refine tops_nil ?_
            refine twp_norm [4] (sub_d rfl .nil) (blk_box rfl (blk_nil rfl)) ?_
            refine twp_ret ?_
            refine way_blockRet ?_
            refine way_thenRet ?_
            exact Ends.plainB _ rfl (by rw [Ex.form_eq e]; (first | rw [hno] | rw [hall] | skip); (try simp only [decide_eq_true_eq, decide_eq_false_iff_not] at *); (repeat split) <;> (first | omega | (simp; omega) | (simp_all; done) | (simp_all <;> omega)))
          · refine s_no rfl rfl rfl rfl ?_
            refine s_no rfl rfl rfl rfl ?_
            refine s_rd _ rfl (by first | exact pick_Fd rfl rfl rfl | exact pick_F rfl rfl rfl) ?_
            refine s_rd _ rfl (mv_d (.inr rfl) rfl) ?_
            refine tops_nil ?_
            refine twp_norm [4] (sub_d rfl .nil) (blk_box rfl (blk_nil rfl)) ?_
            refine twp_ret ?_
            refine way_blockRet ?_
            refine way_thenRet ?_
            exact Ends.plainB _ rfl (by rw [Ex.form_eq e]; (first | rw [hno] | rw [hall] | skip); (try simp only [decide_eq_true_eq, decide_eq_false_iff_not] at *); (repeat split) <;> (first | omega | (simp; omega) | (simp_all; done) | (simp_all <;> omega)))
        · refine s_no rfl rfl rfl rfl ?_
          refine s_no rfl rfl rfl rfl ?_
          refine s_no rfl rfl rfl rfl ?_
          refine s_no rfl rfl rfl rfl ?_
          refine s_rd _ rfl (by first | exact pick_Fd rfl rfl rfl | exact pick_F rfl rfl rfl) ?_
          refine s_rd _ rfl (mv_d (.inl rfl) rfl) ?_
          refine s_no rfl rfl rfl rfl ?_
          refine s_no rfl rfl rfl rfl ?_
          refine s_rd _ rfl (by first | exact pick_Fd rfl rfl rfl | exact pick_F rfl rfl rfl) ?_
          refine s_rd _ rfl (mv_d (.inr rfl) rfl) ?_
          refine tops_nil ?_
          refine twp_norm [4] (sub_d rfl .nil) (blk_box rfl (blk_nil rfl)) ?_
          refine twp_ret ?_
          refine way_blockRet ?_
          refine way_thenRet ?_
          exact Ends.plainB _ rfl (by rw [Ex.form_eq e]; (first | rw [hno] | rw [hall] | skip); (try simp only [decide_eq_true_eq, decide_eq_false_iff_not] at *); (repeat split) <;> (first | omega | (simp; omega) | (simp_all; done) | (simp_all <;> omega)))
      · refine twp_rseq ?_
        refine s_rd _ rfl (cmp_int rfl rfl rfl rfl) ?_
        refine s_rd _ rfl (mv_d (.inr rfl) rfl) ?_
        refine tops_nil ?_
        refine twp_norm [1, 2, 5, 11, 37] (sub_d rfl (sub_mptr rfl (sub_d rfl (sub_d rfl (sub_d rfl .nil))))) (blk_box rfl (blk_nil rfl)) ?_
        refine twp_cond _ rfl (fun h8 => ?_) (fun h8 => ?_)
        · refine twp_rseq ?_
          refine s_rd _ rfl (mv_d (.inl rfl) rfl) ?_
          refine s_rd _ rfl (cmp_int rfl rfl rfl rfl) ?_
          refine tops_nil ?_
          refine twp_norm [1, 2, 5, 40] (sub_d rfl (sub_mptr rfl (sub_d rfl (sub_d rfl .nil)))) (blk_box rfl (blk_nil rfl)) ?_
          refine twp_cond _ rfl (fun h9 => ?_) (fun h9 => ?_)
          · refine twp_rseq ?_
            refine s_rd _ rfl (mv_d (.inr rfl) rfl) ?_
            refine tops_nil ?_
            refine twp_norm [4] (sub_d rfl .nil) (blk_box rfl (blk_nil rfl)) ?_
            refine twp_ret ?_
            refine way_blockRet ?_
            refine way_thenRet ?_
            exact Ends.plainB _ rfl (by rw [Ex.form_eq e]; (first | rw [hno] | rw [hall] | skip); (try simp only [decide_eq_true_eq, decide_eq_false_iff_not] at *); (repeat split) <;> (first | omega | (simp; omega) | (simp_all; done) | (simp_all <;> omega)))
          · refine twp_skip ?_
            refine way_block ?_
            refine way_then ?_
            refine twp_norm [1, 2, 5] (sub_d rfl (sub_mptr rfl (sub_d rfl .nil))) (blk_box rfl (blk_nil rfl)) ?_
            refine twp_seq ?_
            refine twp_rseq ?_
            refine s_rd _ rfl (mv_d (.inr rfl) rfl) ?_
            refine tops_nil ?_
            refine twp_norm [1, 2, 5, 6] (sub_d rfl (sub_mptr rfl (sub_d rfl (sub_d rfl .nil)))) (blk_box rfl (blk_nil rfl)) ?_
            refine twp_block ?_
            refine twp_whileK (fun i => ([(6, .d (.int .i64 ((i : Nat) : Int)))] : Fr)) (fun i => ([] : List (Nat × Blk))) (fun i => i ≤ e.args.length ∧ (allTo (Ex.form · n) e.args i)) (fun i => e.args.length - i) [6] [1, 2, 5] [0] 0 (by decide) (fun i hi => absurd hi (Nat.not_lt_zero i)) ⟨Nat.zero_le _, allTo_zero⟩ (sub_d rfl (sub_mptr rfl (sub_d rfl .nil))) rfl rfl (blk_box rfl (blk_nil rfl)) rfl ?_
            rintro i ⟨hok, hinv⟩
            refine twp_norm [6, 1, 2, 5] (sub_d rfl (sub_d rfl (sub_mptr rfl (sub_d rfl .nil)))) (blk_box rfl (blk_nil rfl)) ?_
            refine twp_seq ?_
            refine twp_rseq ?_
            refine s_rd _ rfl (mv_d (.inl rfl) rfl) ?_
            refine s_rd _ rfl (mv_d (.inl rfl) rfl) ?_
            refine s_rd _ rfl (cmp_int rfl rfl rfl rfl) ?_
            refine tops_nil ?_
            refine twp_norm [1, 2, 5, 6, 46] (sub_d rfl (sub_mptr rfl (sub_d rfl (sub_d rfl (sub_d rfl .nil))))) (blk_box rfl (blk_nil rfl)) ?_
            refine twp_cond _ rfl (fun hlt => ?_) (fun hlt => ?_)
            · have hlt : i < e.args.length := by simpa using hlt
              obtain ⟨a, ha⟩ : ∃ x, (e.args)[i]? = some x := ⟨_, List.getElem?_eq_getElem (by first | exact hlt | omega | (simp; omega))⟩
              refine twp_skip ?_
              refine way_then ?_
              refine twp_norm [1, 2, 5, 6] (sub_d rfl (sub_mptr rfl (sub_d rfl (sub_d rfl .nil)))) (blk_box rfl (blk_nil rfl)) ?_
              refine twp_seq ?_
              refine twp_block ?_
              refine twp_rseq ?_
              refine s_rd _ rfl (fieldAddr_mptr rfl fld47_2 rfl rfl) ?_
              refine s_rd _ rfl (by first | exact load_box_d rfl lay45 rfl rfl rfl | exact load_box rfl lay45 rfl rfl rfl) ?_
              refine s_rd _ rfl (mv_d (.inl rfl) rfl) ?_
              refine s_rd _ rfl (by first | exact index_msl0 rfl sel45 rfl rfl (by first | assumption | omega | (simp; omega)) | exact index_sl rfl sel45 rfl rfl (Ex.idx_encs ha)) ?_
              refine s_rd _ rfl (by first | exact load_ptrW rfl lay47 rfl rfl rfl | exact load_flatW rfl lay47 rfl rfl (by first | rfl | assumption | (simp only [List.getElem?_map, Option.map_some, *]; done)) rfl rfl | exact load_boxA_d rfl lay47 rfl rfl (Nat.le_of_ble_eq_true rfl) rfl | exact load_boxA rfl lay47 rfl rfl (Nat.le_of_ble_eq_true rfl) rfl | exact load_ptrA rfl lay47 rfl (Nat.le_of_ble_eq_true rfl) rfl) ?_
              refine s_rd _ rfl (mv_d (.inl rfl) rfl) ?_
              refine s_rd _ rfl (rd_callRN rfl rfl (by repeat (first | exact snaps_nil | refine snaps_cons (.d _) ?_ | refine snaps_cons (snap_full rfl (by simp)) ?_ | refine snaps_cons (snap_full rfl rfl) ?_ | refine snaps_cons (snap_boxD rfl rfl) ?_ | refine snaps_cons (snap_agg (by repeat (first | exact SnapsO.nil | refine SnapsO.cons (Snap.d _) rfl ?_ | refine SnapsO.cons (snap_full rfl rfl) rfl ?_))) ?_)) (ih a (List.mem_of_getElem? ha) (hw.arg a (List.mem_of_getElem? ha)))) ?_
              refine s_rd _ rfl (not_b rfl rfl rfl) ?_
              refine tops_nil ?_
              refine twp_norm [1, 2, 5, 6, 56] (sub_d rfl (sub_mptr rfl (sub_d rfl (sub_d rfl (sub_d rfl .nil))))) (blk_box rfl (blk_nil rfl)) ?_
              refine twp_cond _ rfl (fun hfa => ?_) (fun hfa => ?_)
              · have hno : e.args.all (Ex.form · n) = false := allTo_no ha (by simpa using hfa)
                refine twp_rseq ?_
                refine s_rd _ rfl (mv_d (.inr rfl) rfl) ?_
                refine tops_nil ?_
                refine twp_norm [4] (sub_d rfl .nil) (blk_box rfl (blk_nil rfl)) ?_
                refine twp_ret ?_
                refine way_blockRet ?_
                refine way_thenRet ?_
                refine way_thenRet ?_
                refine way_blockRet ?_
                refine way_thenRet ?_
                exact Ends.plainB _ rfl (by rw [Ex.form_eq e]; (first | rw [hno] | rw [hall] | skip); (try simp only [decide_eq_true_eq, decide_eq_false_iff_not] at *); (repeat split) <;> (first | omega | (simp; omega) | (simp_all; done) | (simp_all <;> omega)))
              · refine twp_skip ?_
                refine way_block ?_
                refine way_then ?_
                refine twp_norm [1, 2, 5, 6] (sub_d rfl (sub_mptr rfl (sub_d rfl (sub_d rfl .nil)))) (blk_box rfl (blk_nil rfl)) ?_
                refine twp_region ?_
                refine s_rd _ rfl (mv_d (.inl rfl) rfl) ?_
                refine s_rd _ rfl (arith_ok rfl rfl rfl rfl (by omega)) ?_
                refine s_rd _ rfl (mv_d (.inr rfl) rfl) ?_
                refine tops_nil ?_
                refine way_then ?_
                exact ⟨(i + 1), [0], by decide, (fun i hi => absurd hi (Nat.not_lt_zero i)), ⟨by omega, allTo_succ hinv ha (by simpa using hfa)⟩, (by omega), rfl⟩
            · have hge : ¬ i < e.args.length := by simpa using hlt
              have hi : i = e.args.length := by omega
              have hall := allTo_end hinv hge
              refine twp_exit ?_
              refine way_thenExit ?_
              refine way_thenExit ?_
              refine way_here ?_
              refine way_then ?_
              refine twp_norm [2] (sub_mptr rfl .nil) (blk_box rfl (blk_nil rfl)) ?_
              refine twp_rseq ?_
              refine s_rd _ rfl (fieldAddr_mptr rfl fld47_1 rfl rfl) ?_
              refine s_rd _ rfl (by first | exact load_box_d rfl lay3 rfl rfl rfl | exact load_box rfl lay3 rfl rfl rfl) ?_
              refine s_rd _ rfl (cmp_int rfl rfl rfl rfl) ?_
              refine s_rd _ rfl (mv_d (.inr rfl) rfl) ?_
              refine tops_nil ?_
              refine twp_norm [4] (sub_d rfl .nil) (blk_box rfl (blk_nil rfl)) ?_
              refine twp_ret ?_
              exact Ends.plainB _ rfl (by rw [Ex.form_eq e]; (first | rw [hno] | rw [hall] | skip); (try simp only [decide_eq_true_eq, decide_eq_false_iff_not] at *); (repeat split) <;> (first | omega | (simp; omega) | (simp_all; done) | (simp_all <;> omega)))
        · refine twp_seq ?_
          refine twp_rseq ?_
          refine s_rd _ rfl (cmp_int rfl rfl rfl rfl) ?_
          refine s_rd _ rfl (mv_d (.inr rfl) rfl) ?_
          refine tops_nil ?_
          refine twp_norm [1, 2, 5, 11, 41] (sub_d rfl (sub_mptr rfl (sub_d rfl (sub_d rfl (sub_d rfl .nil))))) (blk_box rfl (blk_nil rfl)) ?_
          refine twp_cond _ rfl (fun h12 => ?_) (fun h12 => ?_)
          · have hk41 := h12
            refine twp_skip ?_
            refine way_then ?_
            refine twp_norm [1, 2, 5, 41] (sub_d rfl (sub_mptr rfl (sub_d rfl (sub_d rfl .nil)))) (blk_box rfl (blk_nil rfl)) ?_
            refine twp_hyp rfl true hk41 ?_
            refine twp_skip ?_
            refine way_block ?_
            refine way_then ?_
            refine twp_norm [1, 2, 5] (sub_d rfl (sub_mptr rfl (sub_d rfl .nil))) (blk_box rfl (blk_nil rfl)) ?_
            refine twp_seq ?_
            refine twp_rseq ?_
            refine s_rd _ rfl (mv_d (.inr rfl) rfl) ?_
            refine tops_nil ?_
            refine twp_norm [1, 2, 5, 6] (sub_d rfl (sub_mptr rfl (sub_d rfl (sub_d rfl .nil)))) (blk_box rfl (blk_nil rfl)) ?_
            refine twp_block ?_
            refine twp_whileK (fun i => ([(6, .d (.int .i64 ((i : Nat) : Int)))] : Fr)) (fun i => ([] : List (Nat × Blk))) (fun i => i ≤ e.args.length ∧ (allTo (Ex.form · n) e.args i)) (fun i => e.args.length - i) [6] [1, 2, 5] [0] 0 (by decide) (fun i hi => absurd hi (Nat.not_lt_zero i)) ⟨Nat.zero_le _, allTo_zero⟩ (sub_d rfl (sub_mptr rfl (sub_d rfl .nil))) rfl rfl (blk_box rfl (blk_nil rfl)) rfl ?_
            rintro i ⟨hok, hinv⟩
            refine twp_norm [6, 1, 2, 5] (sub_d rfl (sub_d rfl (sub_mptr rfl (sub_d rfl .nil)))) (blk_box rfl (blk_nil rfl)) ?_
            refine twp_seq ?_
            refine twp_rseq ?_
            refine s_rd _ rfl (mv_d (.inl rfl) rfl) ?_
            refine s_rd _ rfl (mv_d (.inl rfl) rfl) ?_
            refine s_rd _ rfl (cmp_int rfl rfl rfl rfl) ?_
            refine tops_nil ?_
            refine twp_norm [1, 2, 5, 6, 46] (sub_d rfl (sub_mptr rfl (sub_d rfl (sub_d rfl (sub_d rfl .nil))))) (blk_box rfl (blk_nil rfl)) ?_
            refine twp_cond _ rfl (fun hlt => ?_) (fun hlt => ?_)
            · have hlt : i < e.args.length := by simpa using hlt
              obtain ⟨a, ha⟩ : ∃ x, (e.args)[i]? = some x := ⟨_, List.getElem?_eq_getElem (by first | exact hlt | omega | (simp; omega))⟩
              have hlt : i < e.args.length := by simpa using hlt
              obtain ⟨a, ha⟩ : ∃ x, (e.args)[i]? = some x := ⟨_, List.getElem?_eq_getElem (by first | exact hlt | omega | (simp; omega))⟩
              refine twp_skip ?_
              refine way_then ?_
              refine twp_norm [1, 2, 5, 6] (sub_d rfl (sub_mptr rfl (sub_d rfl (sub_d rfl .nil)))) (blk_box rfl (blk_nil rfl)) ?_
              refine twp_seq ?_
              refine twp_block ?_
              refine twp_rseq ?_
              refine s_rd _ rfl (fieldAddr_mptr rfl fld47_2 rfl rfl) ?_
              refine s_rd _ rfl (by first | exact load_box_d rfl lay45 rfl rfl rfl | exact load_box rfl lay45 rfl rfl rfl) ?_
              refine s_rd _ rfl (mv_d (.inl rfl) rfl) ?_
              refine s_rd _ rfl (by first | exact index_msl0 rfl sel45 rfl rfl (by first | assumption | omega | (simp; omega)) | exact index_sl rfl sel45 rfl rfl (Ex.idx_encs ha)) ?_
              refine s_rd _ rfl (by first | exact load_ptrW rfl lay47 rfl rfl rfl | exact load_flatW rfl lay47 rfl rfl (by first | rfl | assumption | (simp only [List.getElem?_map, Option.map_some, *]; done)) rfl rfl | exact load_boxA_d rfl lay47 rfl rfl (Nat.le_of_ble_eq_true rfl) rfl | exact load_boxA rfl lay47 rfl rfl (Nat.le_of_ble_eq_true rfl) rfl | exact load_ptrA rfl lay47 rfl (Nat.le_of_ble_eq_true rfl) rfl) ?_
              refine s_rd _ rfl (mv_d (.inl rfl) rfl) ?_
              refine s_rd _ rfl (rd_callRN rfl rfl (by repeat (first | exact snaps_nil | refine snaps_cons (.d _) ?_ | refine snaps_cons (snap_full rfl (by simp)) ?_ | refine snaps_cons (snap_full rfl rfl) ?_ | refine snaps_cons (snap_boxD rfl rfl) ?_ | refine snaps_cons (snap_agg (by repeat (first | exact SnapsO.nil | refine SnapsO.cons (Snap.d _) rfl ?_ | refine SnapsO.cons (snap_full rfl rfl) rfl ?_))) ?_)) (ih a (List.mem_of_getElem? ha) (hw.arg a (List.mem_of_getElem? ha)))) ?_
              refine s_rd _ rfl (not_b rfl rfl rfl) ?_
              refine tops_nil ?_
              refine twp_norm [1, 2, 5, 6, 56] (sub_d rfl (sub_mptr rfl (sub_d rfl (sub_d rfl (sub_d rfl .nil))))) (blk_box rfl (blk_nil rfl)) ?_
              refine twp_cond _ rfl (fun hfa => ?_) (fun hfa => ?_)
              · have hno : e.args.all (Ex.form · n) = false := allTo_no ha (by simpa using hfa)
                refine twp_rseq ?_
                refine s_rd _ rfl (mv_d (.inr rfl) rfl) ?_
                refine tops_nil ?_
                refine twp_norm [4] (sub_d rfl .nil) (blk_box rfl (blk_nil rfl)) ?_
                refine twp_ret ?_
                refine way_blockRet ?_
                refine way_thenRet ?_
                refine way_thenRet ?_
                refine way_blockRet ?_
                refine way_thenRet ?_
                exact Ends.plainB _ rfl (by rw [Ex.form_eq e]; (first | rw [hno] | rw [hall] | skip); (try simp only [decide_eq_true_eq, decide_eq_false_iff_not] at *); (repeat split) <;> (first | omega | (simp; omega) | (simp_all; done) | (simp_all <;> omega)))
              · refine twp_skip ?_
                refine way_block ?_
                refine way_then ?_
                refine twp_norm [1, 2, 5, 6] (sub_d rfl (sub_mptr rfl (sub_d rfl (sub_d rfl .nil)))) (blk_box rfl (blk_nil rfl)) ?_
                refine twp_region ?_
                refine s_rd _ rfl (mv_d (.inl rfl) rfl) ?_
                refine s_rd _ rfl (arith_ok rfl rfl rfl rfl (by omega)) ?_
                refine s_rd _ rfl (mv_d (.inr rfl) rfl) ?_
                refine tops_nil ?_
                refine way_then ?_
                exact ⟨(i + 1), [0], by decide, (fun i hi => absurd hi (Nat.not_lt_zero i)), ⟨by omega, allTo_succ hinv ha (by simpa using hfa)⟩, (by omega), rfl⟩
            · have hge : ¬ i < e.args.length := by simpa using hlt
              have hi : i = e.args.length := by omega
              have hge : ¬ i < e.args.length := by simpa using hlt
              have hi : i = e.args.length := by omega
              have hall := allTo_end hinv hge
              refine twp_exit ?_
              refine way_thenExit ?_
              refine way_thenExit ?_
              refine way_here ?_
              refine way_then ?_
              refine twp_norm [2] (sub_mptr rfl .nil) (blk_box rfl (blk_nil rfl)) ?_
              refine twp_rseq ?_
              refine s_rd _ rfl (fieldAddr_mptr rfl fld47_1 rfl rfl) ?_
              refine s_rd _ rfl (by first | exact load_box_d rfl lay3 rfl rfl rfl | exact load_box rfl lay3 rfl rfl rfl) ?_
              refine s_rd _ rfl (cmp_int rfl rfl rfl rfl) ?_
              refine s_rd _ rfl (mv_d (.inr rfl) rfl) ?_
              refine tops_nil ?_
              refine twp_norm [4] (sub_d rfl .nil) (blk_box rfl (blk_nil rfl)) ?_
              refine twp_ret ?_
              exact Ends.plainB _ rfl (by rw [Ex.form_eq e]; (first | rw [hno] | rw [hall] | skip); (try simp only [decide_eq_true_eq, decide_eq_false_iff_not] at *); (repeat split) <;> (first | omega | (simp; omega) | (simp_all; done) | (simp_all <;> omega)))
          · refine twp_region ?_
            refine s_rd _ rfl (cmp_int rfl rfl rfl rfl) ?_
            refine s_rd _ rfl (mv_d (.inr rfl) rfl) ?_
            refine tops_nil ?_
            refine way_then ?_
            refine twp_norm [1, 2, 5, 41] (sub_d rfl (sub_mptr rfl (sub_d rfl (sub_d rfl .nil)))) (blk_box rfl (blk_nil rfl)) ?_
            refine twp_cond _ rfl (fun h16 => ?_) (fun h16 => ?_)
            · refine twp_skip ?_
              refine way_block ?_
              refine way_then ?_
              refine twp_norm [1, 2, 5] (sub_d rfl (sub_mptr rfl (sub_d rfl .nil))) (blk_box rfl (blk_nil rfl)) ?_
              refine twp_seq ?_
              refine twp_rseq ?_
              refine s_rd _ rfl (mv_d (.inr rfl) rfl) ?_
              refine tops_nil ?_
              refine twp_norm [1, 2, 5, 6] (sub_d rfl (sub_mptr rfl (sub_d rfl (sub_d rfl .nil)))) (blk_box rfl (blk_nil rfl)) ?_
              refine twp_block ?_
              refine twp_whileK (fun i => ([(6, .d (.int .i64 ((i : Nat) : Int)))] : Fr)) (fun i => ([] : List (Nat × Blk))) (fun i => i ≤ e.args.length ∧ (allTo (Ex.form · n) e.args i)) (fun i => e.args.length - i) [6] [1, 2, 5] [0] 0 (by decide) (fun i hi => absurd hi (Nat.not_lt_zero i)) ⟨Nat.zero_le _, allTo_zero⟩ (sub_d rfl (sub_mptr rfl (sub_d rfl .nil))) rfl rfl (blk_box rfl (blk_nil rfl)) rfl ?_
              rintro i ⟨hok, hinv⟩
              refine twp_norm [6, 1, 2, 5] (sub_d rfl (sub_d rfl (sub_mptr rfl (sub_d rfl .nil)))) (blk_box rfl (blk_nil rfl)) ?_
              refine twp_seq ?_
              refine twp_rseq ?_
              refine s_rd _ rfl (mv_d (.inl rfl) rfl) ?_
              refine s_rd _ rfl (mv_d (.inl rfl) rfl) ?_
              refine s_rd _ rfl (cmp_int rfl rfl rfl rfl) ?_
              refine tops_nil ?_
              refine twp_norm [1, 2, 5, 6, 46] (sub_d rfl (sub_mptr rfl (sub_d rfl (sub_d rfl (sub_d rfl .nil))))) (blk_box rfl (blk_nil rfl)) ?_
              refine twp_cond _ rfl (fun hlt => ?_) (fun hlt => ?_)
              · have hlt : i < e.args.length := by simpa using hlt
                obtain ⟨a, ha⟩ : ∃ x, (e.args)[i]? = some x := ⟨_, List.getElem?_eq_getElem (by first | exact hlt | omega | (simp; omega))⟩
                have hlt : i < e.args.length := by simpa using hlt
                obtain ⟨a, ha⟩ : ∃ x, (e.args)[i]? = some x := ⟨_, List.getElem?_eq_getElem (by first | exact hlt | omega | (simp; omega))⟩
                have hlt : i < e.args.length := by simpa using hlt
                obtain ⟨a, ha⟩ : ∃ x, (e.args)[i]? = some x := ⟨_, List.getElem?_eq_getElem (by first | exact hlt | omega | (simp; omega))⟩
                refine twp_skip ?_
                refine way_then ?_
                refine twp_norm [1, 2, 5, 6] (sub_d rfl (sub_mptr rfl (sub_d rfl (sub_d rfl .nil)))) (blk_box rfl (blk_nil rfl)) ?_
                refine twp_seq ?_
                refine twp_block ?_
                refine twp_rseq ?_
                refine s_rd _ rfl (fieldAddr_mptr rfl fld47_2 rfl rfl) ?_
                refine s_rd _ rfl (by first | exact load_box_d rfl lay45 rfl rfl rfl | exact load_box rfl lay45 rfl rfl rfl) ?_
                refine s_rd _ rfl (mv_d (.inl rfl) rfl) ?_
                refine s_rd _ rfl (by first | exact index_msl0 rfl sel45 rfl rfl (by first | assumption | omega | (simp; omega)) | exact index_sl rfl sel45 rfl rfl (Ex.idx_encs ha)) ?_
                refine s_rd _ rfl (by first | exact load_ptrW rfl lay47 rfl rfl rfl | exact load_flatW rfl lay47 rfl rfl (by first | rfl | assumption | (simp only [List.getElem?_map, Option.map_some, *]; done)) rfl rfl | exact load_boxA_d rfl lay47 rfl rfl (Nat.le_of_ble_eq_true rfl) rfl | exact load_boxA rfl lay47 rfl rfl (Nat.le_of_ble_eq_true rfl) rfl | exact load_ptrA rfl lay47 rfl (Nat.le_of_ble_eq_true rfl) rfl) ?_
                refine s_rd _ rfl (mv_d (.inl rfl) rfl) ?_
                refine s_rd _ rfl (rd_callRN rfl rfl (by repeat (first | exact snaps_nil | refine snaps_cons (.d _) ?_ | refine snaps_cons (snap_full rfl (by simp)) ?_ | refine snaps_cons (snap_full rfl rfl) ?_ | refine snaps_cons (snap_boxD rfl rfl) ?_ | refine snaps_cons (snap_agg (by repeat (first | exact SnapsO.nil | refine SnapsO.cons (Snap.d _) rfl ?_ | refine SnapsO.cons (snap_full rfl rfl) rfl ?_))) ?_)) (ih a (List.mem_of_getElem? ha) (hw.arg a (List.mem_of_getElem? ha)))) ?_
                refine s_rd _ rfl (not_b rfl rfl rfl) ?_
                refine tops_nil ?_
                refine twp_norm [1, 2, 5, 6, 56] (sub_d rfl (sub_mptr rfl (sub_d rfl (sub_d rfl (sub_d rfl .nil))))) (blk_box rfl (blk_nil rfl)) ?_
                refine twp_cond _ rfl (fun hfa => ?_) (fun hfa => ?_)
                · have hno : e.args.all (Ex.form · n) = false := allTo_no ha (by simpa using hfa)
                  refine twp_rseq ?_
                  refine s_rd _ rfl (mv_d (.inr rfl) rfl) ?_
                  refine tops_nil ?_
                  refine twp_norm [4] (sub_d rfl .nil) (blk_box rfl (blk_nil rfl)) ?_
                  refine twp_ret ?_
                  refine way_blockRet ?_
                  refine way_thenRet ?_
                  refine way_thenRet ?_
                  refine way_blockRet ?_
                  refine way_thenRet ?_
                  exact Ends.plainB _ rfl (by rw [Ex.form_eq e]; (first | rw [hno] | rw [hall] | skip); (try simp only [decide_eq_true_eq, decide_eq_false_iff_not] at *); (repeat split) <;> (first | omega | (simp; omega) | (simp_all; done) | (simp_all <;> omega)))
                · refine twp_skip ?_
                  refine way_block ?_
                  refine way_then ?_
                  refine twp_norm [1, 2, 5, 6] (sub_d rfl (sub_mptr rfl (sub_d rfl (sub_d rfl .nil)))) (blk_box rfl (blk_nil rfl)) ?_
                  refine twp_region ?_
                  refine s_rd _ rfl (mv_d (.inl rfl) rfl) ?_
                  refine s_rd _ rfl (arith_ok rfl rfl rfl rfl (by omega)) ?_
                  refine s_rd _ rfl (mv_d (.inr rfl) rfl) ?_
                  refine tops_nil ?_
                  refine way_then ?_
                  exact ⟨(i + 1), [0], by decide, (fun i hi => absurd hi (Nat.not_lt_zero i)), ⟨by omega, allTo_succ hinv ha (by simpa using hfa)⟩, (by omega), rfl⟩
              · have hge : ¬ i < e.args.length := by simpa using hlt
                have hi : i = e.args.length := by omega
                have hge : ¬ i < e.args.length := by simpa using hlt
                have hi : i = e.args.length := by omega
                have hge : ¬ i < e.args.length := by simpa using hlt
                have hi : i = e.args.length := by omega
                have hall := allTo_end hinv hge
                refine twp_exit ?_
                refine way_thenExit ?_
                refine way_thenExit ?_
                refine way_here ?_
                refine way_then ?_
                refine twp_norm [2] (sub_mptr rfl .nil) (blk_box rfl (blk_nil rfl)) ?_
                refine twp_rseq ?_
                refine s_rd _ rfl (fieldAddr_mptr rfl fld47_1 rfl rfl) ?_
                refine s_rd _ rfl (by first | exact load_box_d rfl lay3 rfl rfl rfl | exact load_box rfl lay3 rfl rfl rfl) ?_
                refine s_rd _ rfl (cmp_int rfl rfl rfl rfl) ?_
                refine s_rd _ rfl (mv_d (.inr rfl) rfl) ?_
                refine tops_nil ?_
                refine twp_norm [4] (sub_d rfl .nil) (blk_box rfl (blk_nil rfl)) ?_
                refine twp_ret ?_
                exact Ends.plainB _ rfl (by rw [Ex.form_eq e]; (first | rw [hno] | rw [hall] | skip); (try simp only [decide_eq_true_eq, decide_eq_false_iff_not] at *); (repeat split) <;> (first | omega | (simp; omega) | (simp_all; done) | (simp_all <;> omega)))
            · refine twp_rseq ?_
              refine s_rd _ rfl (mv_d (.inr rfl) rfl) ?_
              refine tops_nil ?_
              refine twp_norm [4] (sub_d rfl .nil) (blk_box rfl (blk_nil rfl)) ?_
              refine twp_ret ?_
              refine way_blockRet ?_
              refine way_thenRet ?_
              exact Ends.plainB _ rfl (by rw [Ex.form_eq e]; (first | rw [hno] | rw [hall] | skip); (try simp only [decide_eq_true_eq, decide_eq_false_iff_not] at *); (repeat split) <;> (first | omega | (simp; omega) | (simp_all; done) | (simp_all <;> omega)))

theorem form_n (n : Int) : ∀ e : Ex, e.Wf → RetN Try.prog 45 [e.enc, .int .i64 n] (.bool (e.form n)) := Ex.ind fun e ih hw => .unit (form_step e n hw.len ih hw) rfl

end Go.Proofs.Yteedddlipoonoaa
