/- Expressions: values, counts, forms, as both sides compute them, walked. No condition. -/
import Derived.Test.YteedddlipoonoaaPlcA
import Derived.KernelRfl
set_option linter.unusedSimpArgs false
set_option linter.unusedVariables false
namespace Go.Proofs.Yteedddlipoonoaa
open Go Go.TL

theorem callB36 : callB Try.prog 36 = true := by kernel_rfl

theorem sel31 : sel Try.prog 31 = some (4, 1, 1) := by kernel_rfl

theorem lay4 : lay Try.prog 4 = some (false, 1) := by kernel_rfl

theorem evalR_step (e : Ex) (vs : List Bool) (hv : vs.length ≤ 9223372036854775807) (ih : ∀ a ∈ e.args, a.Wf → RetN Try.prog 36 [a.enc, bools vs] (.bool (a.eval vs))) (hw : e.Wf) : Ret Try.prog 36 [] (fun _ => false) ([e.enc, bools vs].map .d) (.d (.bool (e.eval vs))) [] := by
  have hlen := hw.len
  refine ret_body callB36 Try.func36 rfl Try.ntmps36 rfl rfl (fun wX gX => ?_)
  refine twp_norm [0, 1] (sub_d rfl (sub_d rfl .nil)) (blk_nil rfl) ?_
  refine twp_rseq ?_
  refine s_boxA rfl rfl rfl ?_
  refine s_eq 2 (.mptr 0 0 0 0) rfl rfl ?_
  refine s_rd _ rfl (mv_d (.inr rfl) rfl) ?_
  refine tops_nil ?_
  refine twp_norm [1, 2] (sub_d rfl (sub_mptr rfl .nil)) (blk_boxN rfl (by repeat (first | exact NormC.nil rfl | apply nc_d rfl | apply nc_msl rfl | apply nc_mptr rfl | apply nc_fnc rfl)) (blk_nil rfl)) ?_
  refine twp_seq ?_
  refine twp_rseq ?_
  refine s_rd _ rfl (fieldAddr_mptr rfl fld47_0 rfl rfl) ?_
  refine s_rd _ rfl (by first | exact load_box_d rfl lay3 rfl rfl rfl | exact load_box rfl lay3 rfl rfl rfl) ?_
  refine tops_nil ?_
  refine twp_norm [1, 2, 7] (sub_d rfl (sub_mptr rfl (sub_d rfl .nil))) (blk_box rfl (blk_nil rfl)) ?_
  refine twp_block ?_
  refine twp_rseq ?_
  refine s_rd _ rfl (cmp_int rfl rfl rfl rfl) ?_
  refine s_rd _ rfl (mv_d (.inr rfl) rfl) ?_
  refine tops_nil ?_
  refine twp_norm [1, 2, 7, 8] (sub_d rfl (sub_mptr rfl (sub_d rfl (sub_d rfl .nil)))) (blk_box rfl (blk_nil rfl)) ?_
  refine twp_cond _ rfl (fun h0 => ?_) (fun h0 => ?_)
  · refine twp_rseq ?_
    refine s_rd _ rfl (mv_d (.inr rfl) rfl) ?_
    refine tops_nil ?_
    refine twp_norm [4] (sub_d rfl .nil) (blk_box rfl (blk_nil rfl)) ?_
    refine twp_ret ?_
    refine way_blockRet ?_
    refine way_thenRet ?_
    exact Ends.plainB _ rfl (by rw [Ex.eval_eq e]; (try rw [hlk]); (try rw [hcons]); (try rw [hz]); (try simp only [decide_eq_true_eq, decide_eq_false_iff_not] at *); (try simp only [*]); (repeat split) <;> (first | omega | rfl | (simp_all; done) | (simp_all <;> omega)))
  · refine twp_rseq ?_
    refine s_rd _ rfl (cmp_int rfl rfl rfl rfl) ?_
    refine s_rd _ rfl (mv_d (.inr rfl) rfl) ?_
    refine tops_nil ?_
    refine twp_norm [1, 2, 7, 10] (sub_d rfl (sub_mptr rfl (sub_d rfl (sub_d rfl .nil)))) (blk_box rfl (blk_nil rfl)) ?_
    refine twp_cond _ rfl (fun h1 => ?_) (fun h1 => ?_)
    · refine twp_rseq ?_
      refine s_rd _ rfl (fieldAddr_mptr rfl fld47_1 rfl rfl) ?_
      refine s_rd _ rfl (by first | exact load_box_d rfl lay3 rfl rfl rfl | exact load_box rfl lay3 rfl rfl rfl) ?_
      refine s_rd _ rfl (cmp_int rfl rfl rfl rfl) ?_
      refine s_rd _ rfl (mv_d (.inl rfl) rfl) ?_
      refine s_split 15 rfl (fun h0v => ?_) (fun h0v => ?_)
      · have h0v : 0 ≤ e.var := of_decide_eq_true h0v
        refine s_yes rfl rfl rfl ?_
        refine s_rd _ rfl (fieldAddr_mptr rfl fld47_1 rfl rfl) ?_
        refine s_yes rfl rfl rfl ?_
        refine s_rd _ rfl (by first | exact load_box_d rfl lay3 rfl rfl rfl | exact load_box rfl lay3 rfl rfl rfl) ?_
        refine s_yes rfl rfl rfl ?_
        refine s_rd _ rfl (mv_d (.inl rfl) rfl) ?_
        refine s_yes rfl rfl rfl ?_
        refine s_rd _ rfl (by first | exact len_d rfl sel31 rfl (by first | exact List.length_map _ | rfl) | exact len_nil rfl sel31 rfl) ?_
        refine s_yes rfl rfl rfl ?_
        refine s_rd _ rfl (cmp_int rfl rfl rfl rfl) ?_
        refine s_rd _ rfl (by first | exact pick_Td rfl rfl rfl | exact pick_T rfl rfl rfl) ?_
        refine s_rd _ rfl (mv_d (.inl rfl) rfl) ?_
        refine s_split 22 rfl (fun h1v => ?_) (fun h1v => ?_)
        · have h1v : e.var < vs.length := of_decide_eq_true h1v
          obtain ⟨b, hb⟩ := get_lt (xs := vs) (i := e.var.toNat) (by omega)
          have hlk := Ex.look_get h0v hb
          refine s_yes rfl rfl rfl ?_
          refine s_rd _ rfl (mv_d (.inl rfl) rfl) ?_
          refine s_yes rfl rfl rfl ?_
          refine s_rd _ rfl (fieldAddr_mptr rfl fld47_1 rfl rfl) ?_
          refine s_yes rfl rfl rfl ?_
          refine s_rd _ rfl (by first | exact load_box_d rfl lay3 rfl rfl rfl | exact load_box rfl lay3 rfl rfl rfl) ?_
          refine s_yes rfl rfl rfl ?_
          refine s_rd _ rfl (index_sl rfl sel31 rfl rfl (idx_int h0v hb)) ?_
          refine s_yes rfl rfl rfl ?_
          refine s_rd _ rfl (load_ptr rfl lay4 rfl rfl) ?_
          refine s_rd _ rfl (by first | exact pick_Td rfl rfl rfl | exact pick_T rfl rfl rfl) ?_
          refine s_rd _ rfl (mv_d (.inr rfl) rfl) ?_
          refine tops_nil ?_
          refine twp_norm [4] (sub_d rfl .nil) (blk_box rfl (blk_nil rfl)) ?_
          refine twp_ret ?_
          refine way_blockRet ?_
          refine way_thenRet ?_
          exact Ends.plainB _ rfl (by rw [Ex.eval_eq e]; (try rw [hlk]); (try rw [hcons]); (try rw [hz]); (try simp only [decide_eq_true_eq, decide_eq_false_iff_not] at *); (try simp only [*]); (repeat split) <;> (first | omega | rfl | (simp_all; done) | (simp_all <;> omega)))
        · have hlk : Ex.look vs e.var = false := Ex.look_out (by have := of_decide_eq_false h1v; omega)
          refine s_no rfl rfl rfl rfl ?_
          refine s_no rfl rfl rfl rfl ?_
          refine s_no rfl rfl rfl rfl ?_
          refine s_no rfl rfl rfl rfl ?_
          refine s_no rfl rfl rfl rfl ?_
          refine s_rd _ rfl (by first | exact pick_Fd rfl rfl rfl | exact pick_F rfl rfl rfl) ?_
          refine s_rd _ rfl (mv_d (.inr rfl) rfl) ?_
          refine tops_nil ?_
          refine twp_norm [4] (sub_d rfl .nil) (blk_box rfl (blk_nil rfl)) ?_
          refine twp_ret ?_
          refine way_blockRet ?_
          refine way_thenRet ?_
          exact Ends.plainB _ rfl (by rw [Ex.eval_eq e]; (try rw [hlk]); (try rw [hcons]); (try rw [hz]); (try simp only [decide_eq_true_eq, decide_eq_false_iff_not] at *); (try simp only [*]); (repeat split) <;> (first | omega | rfl | (simp_all; done) | (simp_all <;> omega)))
      · have hlk : Ex.look vs e.var = false := Ex.look_out (by have := of_decide_eq_false h0v; omega)
        refine s_no rfl rfl rfl rfl ?_
        refine s_no rfl rfl rfl rfl ?_
        refine s_no rfl rfl rfl rfl ?_
        refine s_no rfl rfl rfl rfl ?_
        refine s_no rfl rfl rfl rfl ?_
        refine s_rd _ rfl (by first | exact pick_Fd rfl rfl rfl | exact pick_F rfl rfl rfl) ?_
        refine s_rd _ rfl (mv_d (.inl rfl) rfl) ?_
        refine s_no rfl rfl rfl rfl ?_
        refine s_no rfl rfl rfl rfl ?_
        refine s_no rfl rfl rfl rfl ?_
        refine s_no rfl rfl rfl rfl ?_
        refine s_no rfl rfl rfl rfl ?_
        refine s_rd _ rfl (by first | exact pick_Fd rfl rfl rfl | exact pick_F rfl rfl rfl) ?_
        refine s_rd _ rfl (mv_d (.inr rfl) rfl) ?_
        refine tops_nil ?_
        refine twp_norm [4] (sub_d rfl .nil) (blk_box rfl (blk_nil rfl)) ?_
        refine twp_ret ?_
        refine way_blockRet ?_
        refine way_thenRet ?_
        exact Ends.plainB _ rfl (by rw [Ex.eval_eq e]; (try rw [hlk]); (try rw [hcons]); (try rw [hz]); (try simp only [decide_eq_true_eq, decide_eq_false_iff_not] at *); (try simp only [*]); (repeat split) <;> (first | omega | rfl | (simp_all; done) | (simp_all <;> omega)))
    · refine twp_rseq ?_
      refine s_rd _ rfl (cmp_int rfl rfl rfl rfl) ?_
      refine s_rd _ rfl (mv_d (.inr rfl) rfl) ?_
      refine tops_nil ?_
      refine twp_norm [1, 2, 7, 29] (sub_d rfl (sub_mptr rfl (sub_d rfl (sub_d rfl .nil)))) (blk_box rfl (blk_nil rfl)) ?_
      refine twp_cond _ rfl (fun h4 => ?_) (fun h4 => ?_)
      · refine twp_rseq ?_
        refine s_rd _ rfl (fieldAddr_mptr rfl fld47_2 rfl rfl) ?_
        refine s_rd _ rfl (by first | exact load_box_d rfl lay45 rfl rfl rfl | exact load_box rfl lay45 rfl rfl rfl) ?_
        refine s_rd _ rfl (by first | exact len_d rfl sel45 rfl (by first | exact List.length_map _ | exact Ex.encs_length _ | rfl) | exact len_msl rfl sel45 rfl | exact len_nil rfl sel45 rfl) ?_
        refine s_rd _ rfl (cmp_int rfl rfl rfl rfl) ?_
        refine s_rd _ rfl (mv_d (.inl rfl) rfl) ?_
        refine s_split 35 rfl (fun hz => ?_) (fun hz => ?_)
        · have hz : 0 < e.args.length := by simpa using hz
          obtain ⟨a, r, hcons⟩ : ∃ a r, e.args = a :: r := List.exists_cons_of_length_pos hz
          have ha : e.args[0]? = some a := by rw [hcons]; rfl
          refine s_yes rfl rfl rfl ?_
          refine s_rd _ rfl (fieldAddr_mptr rfl fld47_2 rfl rfl) ?_
          refine s_yes rfl rfl rfl ?_
          refine s_rd _ rfl (by first | exact load_box_d rfl lay45 rfl rfl rfl | exact load_box rfl lay45 rfl rfl rfl) ?_
          refine s_yes rfl rfl rfl ?_
          refine s_rd _ rfl (by first | exact index_msl0 rfl sel45 rfl rfl (by first | assumption | omega | (simp; omega)) | exact index_sl rfl sel45 rfl rfl ⟨by decide, Ex.encs_get ha⟩) ?_
          refine s_yes rfl rfl rfl ?_
          refine s_rd _ rfl (by first | exact load_ptrW rfl lay47 rfl rfl rfl | exact load_flatW rfl lay47 rfl rfl (by first | rfl | assumption | (simp only [List.getElem?_map, Option.map_some, *]; done)) rfl rfl | exact load_boxA_d rfl lay47 rfl rfl (Nat.le_of_ble_eq_true rfl) rfl | exact load_boxA rfl lay47 rfl rfl (Nat.le_of_ble_eq_true rfl) rfl | exact load_ptrA rfl lay47 rfl (Nat.le_of_ble_eq_true rfl) rfl) ?_
          refine s_yes rfl rfl rfl ?_
          refine s_rd _ rfl (mv_d (.inl rfl) rfl) ?_
          refine s_yes rfl rfl rfl ?_
          refine s_rd _ rfl (rd_callRN rfl rfl (by repeat (first | exact snaps_nil | refine snaps_cons (.d _) ?_ | refine snaps_cons (snap_full rfl (by simp)) ?_ | refine snaps_cons (snap_full rfl rfl) ?_ | refine snaps_cons (snap_boxD rfl rfl) ?_ | refine snaps_cons (snap_agg (by repeat (first | exact SnapsO.nil | refine SnapsO.cons (Snap.d _) rfl ?_ | refine SnapsO.cons (snap_full rfl rfl) rfl ?_))) ?_)) (ih a (List.mem_of_getElem? ha) (hw.arg a (List.mem_of_getElem? ha)))) ?_
          refine s_yes rfl rfl rfl ?_
          refine s_rd _ rfl (not_b rfl rfl rfl) ?_
          refine s_rd _ rfl (by first | exact pick_Td rfl rfl rfl | exact pick_T rfl rfl rfl) ?_
          refine s_rd _ rfl (mv_d (.inr rfl) rfl) ?_
          refine tops_nil ?_
          refine twp_norm [4] (sub_d rfl .nil) (blk_box rfl (blk_nil rfl)) ?_
          refine twp_ret ?_
          refine way_blockRet ?_
          refine way_thenRet ?_
          exact Ends.plainB _ rfl (by rw [Ex.eval_eq e]; (try rw [hlk]); (try rw [hcons]); (try rw [hz]); (try simp only [decide_eq_true_eq, decide_eq_false_iff_not] at *); (try simp only [*]); (repeat split) <;> (first | omega | rfl | (simp_all; done) | (simp_all <;> omega)))
        · have hz : e.args = [] := by simpa using hz
          refine s_no rfl rfl rfl rfl ?_
          refine s_no rfl rfl rfl rfl ?_
          refine s_no rfl rfl rfl rfl ?_
          refine s_no rfl rfl rfl rfl ?_
          refine s_no rfl rfl rfl rfl ?_
          refine s_no rfl rfl rfl rfl ?_
          refine s_no rfl rfl rfl rfl ?_
          refine s_rd _ rfl (by first | exact pick_Fd rfl rfl rfl | exact pick_F rfl rfl rfl) ?_
          refine s_rd _ rfl (mv_d (.inr rfl) rfl) ?_
          refine tops_nil ?_
          refine twp_norm [4] (sub_d rfl .nil) (blk_box rfl (blk_nil rfl)) ?_
          refine twp_ret ?_
          refine way_blockRet ?_
          refine way_thenRet ?_
          exact Ends.plainB _ rfl (by rw [Ex.eval_eq e]; (try rw [hlk]); (try rw [hcons]); (try rw [hz]); (try simp only [decide_eq_true_eq, decide_eq_false_iff_not] at *); (try simp only [*]); (repeat split) <;> (first | omega | rfl | (simp_all; done) | (simp_all <;> omega)))
      · refine twp_seq ?_
        refine twp_rseq ?_
        refine s_rd _ rfl (cmp_int rfl rfl rfl rfl) ?_
        refine s_rd _ rfl (mv_d (.inr rfl) rfl) ?_
        refine tops_nil ?_
        refine twp_norm [1, 2, 7, 44] (sub_d rfl (sub_mptr rfl (sub_d rfl (sub_d rfl .nil)))) (blk_box rfl (blk_nil rfl)) ?_
        refine twp_cond _ rfl (fun h6 => ?_) (fun h6 => ?_)
        · have hk44 := h6
          refine twp_skip ?_
          refine way_then ?_
          refine twp_norm [1, 2, 44] (sub_d rfl (sub_mptr rfl (sub_d rfl .nil))) (blk_box rfl (blk_nil rfl)) ?_
          refine twp_hyp rfl true hk44 ?_
          refine twp_seq ?_
          refine twp_rseq ?_
          refine s_rd _ rfl (mv_d (.inr rfl) rfl) ?_
          refine tops_nil ?_
          refine twp_norm [1, 2, 5] (sub_d rfl (sub_mptr rfl (sub_d rfl .nil))) (blk_box rfl (blk_nil rfl)) ?_
          refine twp_block ?_
          refine twp_whileK (fun i => ([(5, .d (.int .i64 ((i : Nat) : Int)))] : Fr)) (fun i => ([] : List (Nat × Blk))) (fun i => i ≤ e.args.length ∧ (allTo (fun a => !(a.eval vs == decide (e.op = 6))) e.args i)) (fun i => e.args.length - i) [5] [1, 2] [0] 0 (by decide) (fun i hi => absurd hi (Nat.not_lt_zero i)) ⟨Nat.zero_le _, allTo_zero⟩ (sub_d rfl (sub_mptr rfl .nil)) rfl rfl (blk_box rfl (blk_nil rfl)) rfl ?_
          rintro i ⟨hok, hinv⟩
          refine twp_norm [5, 1, 2] (sub_d rfl (sub_d rfl (sub_mptr rfl .nil))) (blk_box rfl (blk_nil rfl)) ?_
          refine twp_seq ?_
          refine twp_rseq ?_
          refine s_rd _ rfl (mv_d (.inl rfl) rfl) ?_
          refine s_rd _ rfl (fieldAddr_mptr rfl fld47_2 rfl rfl) ?_
          refine s_rd _ rfl (by first | exact load_box_d rfl lay45 rfl rfl rfl | exact load_box rfl lay45 rfl rfl rfl) ?_
          refine s_rd _ rfl (by first | exact len_d rfl sel45 rfl (by first | exact List.length_map _ | exact Ex.encs_length _ | rfl) | exact len_msl rfl sel45 rfl | exact len_nil rfl sel45 rfl) ?_
          refine s_rd _ rfl (cmp_int rfl rfl rfl rfl) ?_
          refine tops_nil ?_
          refine twp_norm [1, 2, 5, 51] (sub_d rfl (sub_mptr rfl (sub_d rfl (sub_d rfl .nil)))) (blk_box rfl (blk_nil rfl)) ?_
          refine twp_cond _ rfl (fun hlt => ?_) (fun hlt => ?_)
          · have hlt : i < e.args.length := by simpa using hlt
            obtain ⟨a, ha⟩ : ∃ x, (e.args)[i]? = some x := ⟨_, List.getElem?_eq_getElem (by first | exact hlt | omega | (simp; omega))⟩
            refine twp_skip ?_
            refine way_then ?_
            refine twp_norm [1, 2, 5] (sub_d rfl (sub_mptr rfl (sub_d rfl .nil))) (blk_box rfl (blk_nil rfl)) ?_
            refine twp_seq ?_
            refine twp_block ?_
            refine twp_dseq follows  ?_
            refine d_rd [] _ rfl rfl (fieldAddr_mptr rfl fld47_2 rfl rfl) ?_
            first | refine d_rd [] _ rfl rfl (by first | exact load_box_d rfl lay45 rfl rfl rfl | exact load_box rfl lay45 rfl rfl rfl) ?_ | refine d_rd [0] _ rfl rfl (by first | exact load_box_d rfl lay45 rfl rfl rfl | exact load_box rfl lay45 rfl rfl rfl) ?_ | refine d_rd [1] _ rfl rfl (by first | exact load_box_d rfl lay45 rfl rfl rfl | exact load_box rfl lay45 rfl rfl rfl) ?_ | refine d_rd [2] _ rfl rfl (by first | exact load_box_d rfl lay45 rfl rfl rfl | exact load_box rfl lay45 rfl rfl rfl) ?_ | refine d_rd [3] _ rfl rfl (by first | exact load_box_d rfl lay45 rfl rfl rfl | exact load_box rfl lay45 rfl rfl rfl) ?_ | refine d_rd [0, 1] _ rfl rfl (by first | exact load_box_d rfl lay45 rfl rfl rfl | exact load_box rfl lay45 rfl rfl rfl) ?_
            refine d_rd [] _ rfl rfl (mv_d (.inl rfl) rfl) ?_
            refine d_rd [] _ rfl rfl (by first | exact index_msl0 rfl sel45 rfl rfl (by first | assumption | omega | (simp; omega)) | exact index_sl rfl sel45 rfl rfl (Ex.idx_encs ha)) ?_
            first | refine d_rd [] _ rfl rfl (by first | exact load_ptrW rfl lay47 rfl rfl rfl | exact load_flatW rfl lay47 rfl rfl (by first | rfl | assumption | (simp only [List.getElem?_map, Option.map_some, *]; done)) rfl rfl | exact load_boxA_d rfl lay47 rfl rfl (Nat.le_of_ble_eq_true rfl) rfl | exact load_boxA rfl lay47 rfl rfl (Nat.le_of_ble_eq_true rfl) rfl | exact load_ptrA rfl lay47 rfl (Nat.le_of_ble_eq_true rfl) rfl) ?_ | refine d_rd [0] _ rfl rfl (by first | exact load_ptrW rfl lay47 rfl rfl rfl | exact load_flatW rfl lay47 rfl rfl (by first | rfl | assumption | (simp only [List.getElem?_map, Option.map_some, *]; done)) rfl rfl | exact load_boxA_d rfl lay47 rfl rfl (Nat.le_of_ble_eq_true rfl) rfl | exact load_boxA rfl lay47 rfl rfl (Nat.le_of_ble_eq_true rfl) rfl | exact load_ptrA rfl lay47 rfl (Nat.le_of_ble_eq_true rfl) rfl) ?_ | refine d_rd [1] _ rfl rfl (by first | exact load_ptrW rfl lay47 rfl rfl rfl | exact load_flatW rfl lay47 rfl rfl (by first | rfl | assumption | (simp only [List.getElem?_map, Option.map_some, *]; done)) rfl rfl | exact load_boxA_d rfl lay47 rfl rfl (Nat.le_of_ble_eq_true rfl) rfl | exact load_boxA rfl lay47 rfl rfl (Nat.le_of_ble_eq_true rfl) rfl | exact load_ptrA rfl lay47 rfl (Nat.le_of_ble_eq_true rfl) rfl) ?_ | refine d_rd [2] _ rfl rfl (by first | exact load_ptrW rfl lay47 rfl rfl rfl | exact load_flatW rfl lay47 rfl rfl (by first | rfl | assumption | (simp only [List.getElem?_map, Option.map_some, *]; done)) rfl rfl | exact load_boxA_d rfl lay47 rfl rfl (Nat.le_of_ble_eq_true rfl) rfl | exact load_boxA rfl lay47 rfl rfl (Nat.le_of_ble_eq_true rfl) rfl | exact load_ptrA rfl lay47 rfl (Nat.le_of_ble_eq_true rfl) rfl) ?_ | refine d_rd [3] _ rfl rfl (by first | exact load_ptrW rfl lay47 rfl rfl rfl | exact load_flatW rfl lay47 rfl rfl (by first | rfl | assumption | (simp only [List.getElem?_map, Option.map_some, *]; done)) rfl rfl | exact load_boxA_d rfl lay47 rfl rfl (Nat.le_of_ble_eq_true rfl) rfl | exact load_boxA rfl lay47 rfl rfl (Nat.le_of_ble_eq_true rfl) rfl | exact load_ptrA rfl lay47 rfl (Nat.le_of_ble_eq_true rfl) rfl) ?_ | refine d_rd [0, 1] _ rfl rfl (by first | exact load_ptrW rfl lay47 rfl rfl rfl | exact load_flatW rfl lay47 rfl rfl (by first | rfl | assumption | (simp only [List.getElem?_map, Option.map_some, *]; done)) rfl rfl | exact load_boxA_d rfl lay47 rfl rfl (Nat.le_of_ble_eq_true rfl) rfl | exact load_boxA rfl lay47 rfl rfl (Nat.le_of_ble_eq_true rfl) rfl | exact load_ptrA rfl lay47 rfl (Nat.le_of_ble_eq_true rfl) rfl) ?_
            refine d_rd [] _ rfl rfl (mv_d (.inl rfl) rfl) ?_
            first | refine d_rd [] _ rfl rfl (rd_callRN rfl rfl (by repeat (first | exact snaps_nil | refine snaps_cons (.d _) ?_ | refine snaps_cons (snap_full rfl (by simp)) ?_ | refine snaps_cons (snap_full rfl rfl) ?_ | refine snaps_cons (snap_boxD rfl rfl) ?_ | refine snaps_cons (snap_agg (by repeat (first | exact SnapsO.nil | refine SnapsO.cons (Snap.d _) rfl ?_ | refine SnapsO.cons (snap_full rfl rfl) rfl ?_))) ?_)) (ih a (List.mem_of_getElem? ha) (hw.arg a (List.mem_of_getElem? ha)))) ?_ | refine d_rd [0] _ rfl rfl (rd_callRN rfl rfl (by repeat (first | exact snaps_nil | refine snaps_cons (.d _) ?_ | refine snaps_cons (snap_full rfl (by simp)) ?_ | refine snaps_cons (snap_full rfl rfl) ?_ | refine snaps_cons (snap_boxD rfl rfl) ?_ | refine snaps_cons (snap_agg (by repeat (first | exact SnapsO.nil | refine SnapsO.cons (Snap.d _) rfl ?_ | refine SnapsO.cons (snap_full rfl rfl) rfl ?_))) ?_)) (ih a (List.mem_of_getElem? ha) (hw.arg a (List.mem_of_getElem? ha)))) ?_ | refine d_rd [1] _ rfl rfl (rd_callRN rfl rfl (by repeat (first | exact snaps_nil | refine snaps_cons (.d _) ?_ | refine snaps_cons (snap_full rfl (by simp)) ?_ | refine snaps_cons (snap_full rfl rfl) ?_ | refine snaps_cons (snap_boxD rfl rfl) ?_ | refine snaps_cons (snap_agg (by repeat (first | exact SnapsO.nil | refine SnapsO.cons (Snap.d _) rfl ?_ | refine SnapsO.cons (snap_full rfl rfl) rfl ?_))) ?_)) (ih a (List.mem_of_getElem? ha) (hw.arg a (List.mem_of_getElem? ha)))) ?_ | refine d_rd [2] _ rfl rfl (rd_callRN rfl rfl (by repeat (first | exact snaps_nil | refine snaps_cons (.d _) ?_ | refine snaps_cons (snap_full rfl (by simp)) ?_ | refine snaps_cons (snap_full rfl rfl) ?_ | refine snaps_cons (snap_boxD rfl rfl) ?_ | refine snaps_cons (snap_agg (by repeat (first | exact SnapsO.nil | refine SnapsO.cons (Snap.d _) rfl ?_ | refine SnapsO.cons (snap_full rfl rfl) rfl ?_))) ?_)) (ih a (List.mem_of_getElem? ha) (hw.arg a (List.mem_of_getElem? ha)))) ?_ | refine d_rd [3] _ rfl rfl (rd_callRN rfl rfl (by repeat (first | exact snaps_nil | refine snaps_cons (.d _) ?_ | refine snaps_cons (snap_full rfl (by simp)) ?_ | refine snaps_cons (snap_full rfl rfl) ?_ | refine snaps_cons (snap_boxD rfl rfl) ?_ | refine snaps_cons (snap_agg (by repeat (first | exact SnapsO.nil | refine SnapsO.cons (Snap.d _) rfl ?_ | refine SnapsO.cons (snap_full rfl rfl) rfl ?_))) ?_)) (ih a (List.mem_of_getElem? ha) (hw.arg a (List.mem_of_getElem? ha)))) ?_ | refine d_rd [0, 1] _ rfl rfl (rd_callRN rfl rfl (by repeat (first | exact snaps_nil | refine snaps_cons (.d _) ?_ | refine snaps_cons (snap_full rfl (by simp)) ?_ | refine snaps_cons (snap_full rfl rfl) ?_ | refine snaps_cons (snap_boxD rfl rfl) ?_ | refine snaps_cons (snap_agg (by repeat (first | exact SnapsO.nil | refine SnapsO.cons (Snap.d _) rfl ?_ | refine SnapsO.cons (snap_full rfl rfl) rfl ?_))) ?_)) (ih a (List.mem_of_getElem? ha) (hw.arg a (List.mem_of_getElem? ha)))) ?_
            refine d_rd [] _ rfl rfl (fieldAddr_mptr rfl fld47_0 rfl rfl) ?_
            first | refine d_rd [] _ rfl rfl (by first | exact load_box_d rfl lay3 rfl rfl rfl | exact load_box rfl lay3 rfl rfl rfl) ?_ | refine d_rd [0] _ rfl rfl (by first | exact load_box_d rfl lay3 rfl rfl rfl | exact load_box rfl lay3 rfl rfl rfl) ?_ | refine d_rd [1] _ rfl rfl (by first | exact load_box_d rfl lay3 rfl rfl rfl | exact load_box rfl lay3 rfl rfl rfl) ?_ | refine d_rd [2] _ rfl rfl (by first | exact load_box_d rfl lay3 rfl rfl rfl | exact load_box rfl lay3 rfl rfl rfl) ?_ | refine d_rd [3] _ rfl rfl (by first | exact load_box_d rfl lay3 rfl rfl rfl | exact load_box rfl lay3 rfl rfl rfl) ?_ | refine d_rd [0, 1] _ rfl rfl (by first | exact load_box_d rfl lay3 rfl rfl rfl | exact load_box rfl lay3 rfl rfl rfl) ?_
            refine d_rd [] _ rfl rfl (cmp_int rfl rfl rfl rfl) ?_
            refine d_rd [] _ rfl rfl (cmp_bool Try.underlying4 rfl rfl rfl rfl) ?_
            refine d_tail ?_ (by kernel_rfl)
            refine tops_nil ?_
            refine twp_norm [1, 2, 5, 64] (sub_d rfl (sub_mptr rfl (sub_d rfl (sub_d rfl .nil)))) (blk_box rfl (blk_nil rfl)) ?_
            refine twp_cond _ rfl (fun hfa => ?_) (fun hfa => ?_)
            · have hfa : a.eval vs = decide (e.op = 6) := by simpa using hfa
              have hA : e.op = 5 → e.args.all (Ex.eval · vs) = false := fun h => allTo_no ha (by simp [hfa, h])
              have hO : e.op = 6 → e.args.any (Ex.eval · vs) = true := fun h => anyTo_yes ha (by simp [hfa, h])
              refine twp_rseq ?_
              refine s_rd _ rfl (fieldAddr_mptr rfl fld47_0 rfl rfl) ?_
              refine s_rd _ rfl (by first | exact load_box_d rfl lay3 rfl rfl rfl | exact load_box rfl lay3 rfl rfl rfl) ?_
              refine s_rd _ rfl (cmp_int rfl rfl rfl rfl) ?_
              refine s_rd _ rfl (mv_d (.inr rfl) rfl) ?_
              refine tops_nil ?_
              refine twp_norm [4] (sub_d rfl .nil) (blk_box rfl (blk_nil rfl)) ?_
              refine twp_ret ?_
              refine way_blockRet ?_
              refine way_thenRet ?_
              refine way_thenRet ?_
              refine way_blockRet ?_
              refine way_thenRet ?_
              refine way_blockRet ?_
              refine way_thenRet ?_
              exact Ends.plainB _ rfl (by rw [Ex.eval_eq e]; (try rw [hlk]); (try rw [hcons]); (try rw [hz]); (try simp only [decide_eq_true_eq, decide_eq_false_iff_not] at *); (try simp only [*]); (repeat split) <;> (first | omega | rfl | (simp_all; done) | (simp_all <;> omega)))
            · refine twp_skip ?_
              refine way_block ?_
              refine way_then ?_
              refine twp_norm [1, 2, 5] (sub_d rfl (sub_mptr rfl (sub_d rfl .nil))) (blk_box rfl (blk_nil rfl)) ?_
              refine twp_region ?_
              refine s_rd _ rfl (mv_d (.inl rfl) rfl) ?_
              refine s_rd _ rfl (arith_ok rfl rfl rfl rfl (by omega)) ?_
              refine s_rd _ rfl (mv_d (.inr rfl) rfl) ?_
              refine tops_nil ?_
              refine way_then ?_
              exact ⟨(i + 1), [0], by decide, (fun i hi => absurd hi (Nat.not_lt_zero i)), ⟨by omega, allTo_succ hinv ha (by simpa using hfa)⟩, (by omega), rfl⟩
          · have hge : ¬ i < e.args.length := by simpa using hlt
            have hi : i = e.args.length := by omega
            have hall := allTo_end hinv hge
            rw [List.all_eq_true] at hall
            have hA : e.op = 5 → e.args.all (Ex.eval · vs) = true := fun h => List.all_eq_true.2 fun a ha => by have := hall a ha; simpa [h] using this
            have hO : e.op = 6 → e.args.any (Ex.eval · vs) = false := fun h => by rw [List.any_eq_false]; intro a ha; have := hall a ha; simpa [h] using this
            refine twp_exit ?_
            refine way_thenExit ?_
            refine way_thenExit ?_
            refine way_here ?_
            refine way_then ?_
            refine twp_norm [2] (sub_mptr rfl .nil) (blk_box rfl (blk_nil rfl)) ?_
            refine twp_rseq ?_
            refine s_rd _ rfl (fieldAddr_mptr rfl fld47_0 rfl rfl) ?_
            refine s_rd _ rfl (by first | exact load_box_d rfl lay3 rfl rfl rfl | exact load_box rfl lay3 rfl rfl rfl) ?_
            refine s_rd _ rfl (cmp_int rfl rfl rfl rfl) ?_
            refine s_rd _ rfl (mv_d (.inr rfl) rfl) ?_
            refine tops_nil ?_
            refine twp_norm [4] (sub_d rfl .nil) (blk_box rfl (blk_nil rfl)) ?_
            refine twp_ret ?_
            refine way_blockRet ?_
            refine way_thenRet ?_
            exact Ends.plainB _ rfl (by rw [Ex.eval_eq e]; (try rw [hlk]); (try rw [hcons]); (try rw [hz]); (try simp only [decide_eq_true_eq, decide_eq_false_iff_not] at *); (try simp only [*]); (repeat split) <;> (first | omega | rfl | (simp_all; done) | (simp_all <;> omega)))
        · refine twp_region ?_
          refine s_rd _ rfl (cmp_int rfl rfl rfl rfl) ?_
          refine s_rd _ rfl (mv_d (.inr rfl) rfl) ?_
          refine tops_nil ?_
          refine way_then ?_
          refine twp_norm [1, 2, 44] (sub_d rfl (sub_mptr rfl (sub_d rfl .nil))) (blk_box rfl (blk_nil rfl)) ?_
          refine twp_cond _ rfl (fun h10 => ?_) (fun h10 => ?_)
          · refine twp_seq ?_
            refine twp_rseq ?_
            refine s_rd _ rfl (mv_d (.inr rfl) rfl) ?_
            refine tops_nil ?_
            refine twp_norm [1, 2, 5] (sub_d rfl (sub_mptr rfl (sub_d rfl .nil))) (blk_box rfl (blk_nil rfl)) ?_
            refine twp_block ?_
            refine twp_whileK (fun i => ([(5, .d (.int .i64 ((i : Nat) : Int)))] : Fr)) (fun i => ([] : List (Nat × Blk))) (fun i => i ≤ e.args.length ∧ (allTo (fun a => !(a.eval vs == decide (e.op = 6))) e.args i)) (fun i => e.args.length - i) [5] [1, 2] [0] 0 (by decide) (fun i hi => absurd hi (Nat.not_lt_zero i)) ⟨Nat.zero_le _, allTo_zero⟩ (sub_d rfl (sub_mptr rfl .nil)) rfl rfl (blk_box rfl (blk_nil rfl)) rfl ?_
            rintro i ⟨hok, hinv⟩
            refine twp_norm [5, 1, 2] (sub_d rfl (sub_d rfl (sub_mptr rfl .nil))) (blk_box rfl (blk_nil rfl)) ?_
            refine twp_seq ?_
            refine twp_rseq ?_
            refine s_rd _ rfl (mv_d (.inl rfl) rfl) ?_
            refine s_rd _ rfl (fieldAddr_mptr rfl fld47_2 rfl rfl) ?_
            refine s_rd _ rfl (by first | exact load_box_d rfl lay45 rfl rfl rfl | exact load_box rfl lay45 rfl rfl rfl) ?_
            refine s_rd _ rfl (by first | exact len_d rfl sel45 rfl (by first | exact List.length_map _ | exact Ex.encs_length _ | rfl) | exact len_msl rfl sel45 rfl | exact len_nil rfl sel45 rfl) ?_
            refine s_rd _ rfl (cmp_int rfl rfl rfl rfl) ?_
            refine tops_nil ?_
            refine twp_norm [1, 2, 5, 51] (sub_d rfl (sub_mptr rfl (sub_d rfl (sub_d rfl .nil)))) (blk_box rfl (blk_nil rfl)) ?_
            refine twp_cond _ rfl (fun hlt => ?_) (fun hlt => ?_)
            · have hlt : i < e.args.length := by simpa using hlt
              obtain ⟨a, ha⟩ : ∃ x, (e.args)[i]? = some x := ⟨_, List.getElem?_eq_getElem (by first | exact hlt | omega | (simp; omega))⟩
              have hlt : i < e.args.length := by simpa using hlt
              obtain ⟨a, ha⟩ : ∃ x, (e.args)[i]? = some x := ⟨_, List.getElem?_eq_getElem (by first | exact hlt | omega | (simp; omega))⟩
              refine twp_skip ?_
              refine way_then ?_
              refine twp_norm [1, 2, 5] (sub_d rfl (sub_mptr rfl (sub_d rfl .nil))) (blk_box rfl (blk_nil rfl)) ?_
              refine twp_seq ?_
              refine twp_block ?_
              refine twp_dseq follows  ?_
              refine d_rd [] _ rfl rfl (fieldAddr_mptr rfl fld47_2 rfl rfl) ?_
              first | refine d_rd [] _ rfl rfl (by first | exact load_box_d rfl lay45 rfl rfl rfl | exact load_box rfl lay45 rfl rfl rfl) ?_ | refine d_rd [0] _ rfl rfl (by first | exact load_box_d rfl lay45 rfl rfl rfl | exact load_box rfl lay45 rfl rfl rfl) ?_ | refine d_rd [1] _ rfl rfl (by first | exact load_box_d rfl lay45 rfl rfl rfl | exact load_box rfl lay45 rfl rfl rfl) ?_ | refine d_rd [2] _ rfl rfl (by first | exact load_box_d rfl lay45 rfl rfl rfl | exact load_box rfl lay45 rfl rfl rfl) ?_ | refine d_rd [3] _ rfl rfl (by first | exact load_box_d rfl lay45 rfl rfl rfl | exact load_box rfl lay45 rfl rfl rfl) ?_ | refine d_rd [0, 1] _ rfl rfl (by first | exact load_box_d rfl lay45 rfl rfl rfl | exact load_box rfl lay45 rfl rfl rfl) ?_
              refine d_rd [] _ rfl rfl (mv_d (.inl rfl) rfl) ?_
              refine d_rd [] _ rfl rfl (by first | exact index_msl0 rfl sel45 rfl rfl (by first | assumption | omega | (simp; omega)) | exact index_sl rfl sel45 rfl rfl (Ex.idx_encs ha)) ?_
              first | refine d_rd [] _ rfl rfl (by first | exact load_ptrW rfl lay47 rfl rfl rfl | exact load_flatW rfl lay47 rfl rfl (by first | rfl | assumption | (simp only [List.getElem?_map, Option.map_some, *]; done)) rfl rfl | exact load_boxA_d rfl lay47 rfl rfl (Nat.le_of_ble_eq_true rfl) rfl | exact load_boxA rfl lay47 rfl rfl (Nat.le_of_ble_eq_true rfl) rfl | exact load_ptrA rfl lay47 rfl (Nat.le_of_ble_eq_true rfl) rfl) ?_ | refine d_rd [0] _ rfl rfl (by first | exact load_ptrW rfl lay47 rfl rfl rfl | exact load_flatW rfl lay47 rfl rfl (by first | rfl | assumption | (simp only [List.getElem?_map, Option.map_some, *]; done)) rfl rfl | exact load_boxA_d rfl lay47 rfl rfl (Nat.le_of_ble_eq_true rfl) rfl | exact load_boxA rfl lay47 rfl rfl (Nat.le_of_ble_eq_true rfl) rfl | exact load_ptrA rfl lay47 rfl (Nat.le_of_ble_eq_true rfl) rfl) ?_ | refine d_rd [1] _ rfl rfl (by first | exact load_ptrW rfl lay47 rfl rfl rfl | exact load_flatW rfl lay47 rfl rfl (by first | rfl | assumption | (simp only [List.getElem?_map, Option.map_some, *]; done)) rfl rfl | exact load_boxA_d rfl lay47 rfl rfl (Nat.le_of_ble_eq_true rfl) rfl | exact load_boxA rfl lay47 rfl rfl (Nat.le_of_ble_eq_true rfl) rfl | exact load_ptrA rfl lay47 rfl (Nat.le_of_ble_eq_true rfl) rfl) ?_ | refine d_rd [2] _ rfl rfl (by first | exact load_ptrW rfl lay47 rfl rfl rfl | exact load_flatW rfl lay47 rfl rfl (by first | rfl | assumption | (simp only [List.getElem?_map, Option.map_some, *]; done)) rfl rfl | exact load_boxA_d rfl lay47 rfl rfl (Nat.le_of_ble_eq_true rfl) rfl | exact load_boxA rfl lay47 rfl rfl (Nat.le_of_ble_eq_true rfl) rfl | exact load_ptrA rfl lay47 rfl (Nat.le_of_ble_eq_true rfl) rfl) ?_ | refine d_rd [3] _ rfl rfl (by first | exact load_ptrW rfl lay47 rfl rfl rfl | exact load_flatW rfl lay47 rfl rfl (by first | rfl | assumption | (simp only [List.getElem?_map, Option.map_some, *]; done)) rfl rfl | exact load_boxA_d rfl lay47 rfl rfl (Nat.le_of_ble_eq_true rfl) rfl | exact load_boxA rfl lay47 rfl rfl (Nat.le_of_ble_eq_true rfl) rfl | exact load_ptrA rfl lay47 rfl (Nat.le_of_ble_eq_true rfl) rfl) ?_ | refine d_rd [0, 1] _ rfl rfl (by first | exact load_ptrW rfl lay47 rfl rfl rfl | exact load_flatW rfl lay47 rfl rfl (by first | rfl | assumption | (simp only [List.getElem?_map, Option.map_some, *]; done)) rfl rfl | exact load_boxA_d rfl lay47 rfl rfl (Nat.le_of_ble_eq_true rfl) rfl | exact load_boxA rfl lay47 rfl rfl (Nat.le_of_ble_eq_true rfl) rfl | exact load_ptrA rfl lay47 rfl (Nat.le_of_ble_eq_true rfl) rfl) ?_
              refine d_rd [] _ rfl rfl (mv_d (.inl rfl) rfl) ?_
              first | refine d_rd [] _ rfl rfl (rd_callRN rfl rfl (by repeat (first | exact snaps_nil | refine snaps_cons (.d _) ?_ | refine snaps_cons (snap_full rfl (by simp)) ?_ | refine snaps_cons (snap_full rfl rfl) ?_ | refine snaps_cons (snap_boxD rfl rfl) ?_ | refine snaps_cons (snap_agg (by repeat (first | exact SnapsO.nil | refine SnapsO.cons (Snap.d _) rfl ?_ | refine SnapsO.cons (snap_full rfl rfl) rfl ?_))) ?_)) (ih a (List.mem_of_getElem? ha) (hw.arg a (List.mem_of_getElem? ha)))) ?_ | refine d_rd [0] _ rfl rfl (rd_callRN rfl rfl (by repeat (first | exact snaps_nil | refine snaps_cons (.d _) ?_ | refine snaps_cons (snap_full rfl (by simp)) ?_ | refine snaps_cons (snap_full rfl rfl) ?_ | refine snaps_cons (snap_boxD rfl rfl) ?_ | refine snaps_cons (snap_agg (by repeat (first | exact SnapsO.nil | refine SnapsO.cons (Snap.d _) rfl ?_ | refine SnapsO.cons (snap_full rfl rfl) rfl ?_))) ?_)) (ih a (List.mem_of_getElem? ha) (hw.arg a (List.mem_of_getElem? ha)))) ?_ | refine d_rd [1] _ rfl rfl (rd_callRN rfl rfl (by repeat (first | exact snaps_nil | refine snaps_cons (.d _) ?_ | refine snaps_cons (snap_full rfl (by simp)) ?_ | refine snaps_cons (snap_full rfl rfl) ?_ | refine snaps_cons (snap_boxD rfl rfl) ?_ | refine snaps_cons (snap_agg (by repeat (first | exact SnapsO.nil | refine SnapsO.cons (Snap.d _) rfl ?_ | refine SnapsO.cons (snap_full rfl rfl) rfl ?_))) ?_)) (ih a (List.mem_of_getElem? ha) (hw.arg a (List.mem_of_getElem? ha)))) ?_ | refine d_rd [2] _ rfl rfl (rd_callRN rfl rfl (by repeat (first | exact snaps_nil | refine snaps_cons (.d _) ?_ | refine snaps_cons (snap_full rfl (by simp)) ?_ | refine snaps_cons (snap_full rfl rfl) ?_ | refine snaps_cons (snap_boxD rfl rfl) ?_ | refine snaps_cons (snap_agg (by repeat (first | exact SnapsO.nil | refine SnapsO.cons (Snap.d _) rfl ?_ | refine SnapsO.cons (snap_full rfl rfl) rfl ?_))) ?_)) (ih a (List.mem_of_getElem? ha) (hw.arg a (List.mem_of_getElem? ha)))) ?_ | refine d_rd [3] _ rfl rfl (rd_callRN rfl rfl (by repeat (first | exact snaps_nil | refine snaps_cons (.d _) ?_ | refine snaps_cons (snap_full rfl (by simp)) ?_ | refine snaps_cons (snap_full rfl rfl) ?_ | refine snaps_cons (snap_boxD rfl rfl) ?_ | refine snaps_cons (snap_agg (by repeat (first | exact SnapsO.nil | refine SnapsO.cons (Snap.d _) rfl ?_ | refine SnapsO.cons (snap_full rfl rfl) rfl ?_))) ?_)) (ih a (List.mem_of_getElem? ha) (hw.arg a (List.mem_of_getElem? ha)))) ?_ | refine d_rd [0, 1] _ rfl rfl (rd_callRN rfl rfl (by repeat (first | exact snaps_nil | refine snaps_cons (.d _) ?_ | refine snaps_cons (snap_full rfl (by simp)) ?_ | refine snaps_cons (snap_full rfl rfl) ?_ | refine snaps_cons (snap_boxD rfl rfl) ?_ | refine snaps_cons (snap_agg (by repeat (first | exact SnapsO.nil | refine SnapsO.cons (Snap.d _) rfl ?_ | refine SnapsO.cons (snap_full rfl rfl) rfl ?_))) ?_)) (ih a (List.mem_of_getElem? ha) (hw.arg a (List.mem_of_getElem? ha)))) ?_
              refine d_rd [] _ rfl rfl (fieldAddr_mptr rfl fld47_0 rfl rfl) ?_
              first | refine d_rd [] _ rfl rfl (by first | exact load_box_d rfl lay3 rfl rfl rfl | exact load_box rfl lay3 rfl rfl rfl) ?_ | refine d_rd [0] _ rfl rfl (by first | exact load_box_d rfl lay3 rfl rfl rfl | exact load_box rfl lay3 rfl rfl rfl) ?_ | refine d_rd [1] _ rfl rfl (by first | exact load_box_d rfl lay3 rfl rfl rfl | exact load_box rfl lay3 rfl rfl rfl) ?_ | refine d_rd [2] _ rfl rfl (by first | exact load_box_d rfl lay3 rfl rfl rfl | exact load_box rfl lay3 rfl rfl rfl) ?_ | refine d_rd [3] _ rfl rfl (by first | exact load_box_d rfl lay3 rfl rfl rfl | exact load_box rfl lay3 rfl rfl rfl) ?_ | refine d_rd [0, 1] _ rfl rfl (by first | exact load_box_d rfl lay3 rfl rfl rfl | exact load_box rfl lay3 rfl rfl rfl) ?_
              refine d_rd [] _ rfl rfl (cmp_int rfl rfl rfl rfl) ?_
              refine d_rd [] _ rfl rfl (cmp_bool Try.underlying4 rfl rfl rfl rfl) ?_
              refine d_tail ?_ (by kernel_rfl)
              refine tops_nil ?_
              refine twp_norm [1, 2, 5, 64] (sub_d rfl (sub_mptr rfl (sub_d rfl (sub_d rfl .nil)))) (blk_box rfl (blk_nil rfl)) ?_
              refine twp_cond _ rfl (fun hfa => ?_) (fun hfa => ?_)
              · have hfa : a.eval vs = decide (e.op = 6) := by simpa using hfa
                have hA : e.op = 5 → e.args.all (Ex.eval · vs) = false := fun h => allTo_no ha (by simp [hfa, h])
                have hO : e.op = 6 → e.args.any (Ex.eval · vs) = true := fun h => anyTo_yes ha (by simp [hfa, h])
                refine twp_rseq ?_
                refine s_rd _ rfl (fieldAddr_mptr rfl fld47_0 rfl rfl) ?_
                refine s_rd _ rfl (by first | exact load_box_d rfl lay3 rfl rfl rfl | exact load_box rfl lay3 rfl rfl rfl) ?_
                refine s_rd _ rfl (cmp_int rfl rfl rfl rfl) ?_
                refine s_rd _ rfl (mv_d (.inr rfl) rfl) ?_
                refine tops_nil ?_
                refine twp_norm [4] (sub_d rfl .nil) (blk_box rfl (blk_nil rfl)) ?_
                refine twp_ret ?_
                refine way_blockRet ?_
                refine way_thenRet ?_
                refine way_thenRet ?_
                refine way_blockRet ?_
                refine way_thenRet ?_
                refine way_blockRet ?_
                refine way_thenRet ?_
                exact Ends.plainB _ rfl (by rw [Ex.eval_eq e]; (try rw [hlk]); (try rw [hcons]); (try rw [hz]); (try simp only [decide_eq_true_eq, decide_eq_false_iff_not] at *); (try simp only [*]); (repeat split) <;> (first | omega | rfl | (simp_all; done) | (simp_all <;> omega)))
              · refine twp_skip ?_
                refine way_block ?_
                refine way_then ?_
                refine twp_norm [1, 2, 5] (sub_d rfl (sub_mptr rfl (sub_d rfl .nil))) (blk_box rfl (blk_nil rfl)) ?_
                refine twp_region ?_
                refine s_rd _ rfl (mv_d (.inl rfl) rfl) ?_
                refine s_rd _ rfl (arith_ok rfl rfl rfl rfl (by omega)) ?_
                refine s_rd _ rfl (mv_d (.inr rfl) rfl) ?_
                refine tops_nil ?_
                refine way_then ?_
                exact ⟨(i + 1), [0], by decide, (fun i hi => absurd hi (Nat.not_lt_zero i)), ⟨by omega, allTo_succ hinv ha (by simpa using hfa)⟩, (by omega), rfl⟩
            · have hge : ¬ i < e.args.length := by simpa using hlt
              have hi : i = e.args.length := by omega
              have hge : ¬ i < e.args.length := by simpa using hlt
              have hi : i = e.args.length := by omega
              have hall := allTo_end hinv hge
              rw [List.all_eq_true] at hall
              have hA : e.op = 5 → e.args.all (Ex.eval · vs) = true := fun h => List.all_eq_true.2 fun a ha => by have := hall a ha; simpa [h] using this
              have hO : e.op = 6 → e.args.any (Ex.eval · vs) = false := fun h => by rw [List.any_eq_false]; intro a ha; have := hall a ha; simpa [h] using this
              refine twp_exit ?_
              refine way_thenExit ?_
              refine way_thenExit ?_
              refine way_here ?_
              refine way_then ?_
              refine twp_norm [2] (sub_mptr rfl .nil) (blk_box rfl (blk_nil rfl)) ?_
              refine twp_rseq ?_
              refine s_rd _ rfl (fieldAddr_mptr rfl fld47_0 rfl rfl) ?_
              refine s_rd _ rfl (by first | exact load_box_d rfl lay3 rfl rfl rfl | exact load_box rfl lay3 rfl rfl rfl) ?_
              refine s_rd _ rfl (cmp_int rfl rfl rfl rfl) ?_
              refine s_rd _ rfl (mv_d (.inr rfl) rfl) ?_
              refine tops_nil ?_
              refine twp_norm [4] (sub_d rfl .nil) (blk_box rfl (blk_nil rfl)) ?_
              refine twp_ret ?_
              refine way_blockRet ?_
              refine way_thenRet ?_
              exact Ends.plainB _ rfl (by rw [Ex.eval_eq e]; (try rw [hlk]); (try rw [hcons]); (try rw [hz]); (try simp only [decide_eq_true_eq, decide_eq_false_iff_not] at *); (try simp only [*]); (repeat split) <;> (first | omega | rfl | (simp_all; done) | (simp_all <;> omega)))
          · refine twp_skip ?_
            refine way_block ?_
            refine way_then ?_
            refine twp_norm [] .nil (blk_box rfl (blk_nil rfl)) ?_
            refine twp_rseq ?_
            refine s_rd _ rfl (mv_d (.inr rfl) rfl) ?_
            refine tops_nil ?_
            refine twp_norm [4] (sub_d rfl .nil) (blk_box rfl (blk_nil rfl)) ?_
            refine twp_ret ?_
            exact Ends.plainB _ rfl (by rw [Ex.eval_eq e]; (try rw [hlk]); (try rw [hcons]); (try rw [hz]); (try simp only [decide_eq_true_eq, decide_eq_false_iff_not] at *); (try simp only [*]); (repeat split) <;> (first | omega | rfl | (simp_all; done) | (simp_all <;> omega)))

theorem evalR_n (vs : List Bool) (hv : vs.length ≤ 9223372036854775807) : ∀ e : Ex, e.Wf → RetN Try.prog 36 [e.enc, bools vs] (.bool (e.eval vs)) := Ex.ind fun e ih hw => .unit (evalR_step e vs hv ih hw) rfl

theorem callB26 : callB Try.prog 26 = true := by kernel_rfl

theorem count_step (e : Ex) (m : Int) (h0 : 0 ≤ m) (h1 : m ≤ 1000) (ih : ∀ a ∈ e.args, ∀ m, 0 ≤ m → m ≤ 1000 → a.Wf → RetN Try.prog 26 [a.enc, .int .i64 m] (.int .i64 (min (a.size : Int) (m + 1)))) (hw : e.Wf) : Ret Try.prog 26 [] (fun _ => false) ([e.enc, .int .i64 m].map .d) (.d (.int .i64 (min (e.size : Int) (m + 1)))) [] := by
  have hlen := hw.len
  have hse := Ex.size_eq e
  refine ret_body callB26 Try.func26 rfl Try.ntmps26 rfl rfl (fun wX gX => ?_)
  refine twp_norm [0, 1] (sub_d rfl (sub_d rfl .nil)) (blk_nil rfl) ?_
  refine twp_rseq ?_
  refine s_boxA rfl rfl rfl ?_
  refine s_eq 2 (.mptr 0 0 0 0) rfl rfl ?_
  refine s_rd _ rfl (mv_d (.inr rfl) rfl) ?_
  refine tops_nil ?_
  refine twp_norm [1, 2] (sub_d rfl (sub_mptr rfl .nil)) (blk_boxN rfl (by repeat (first | exact NormC.nil rfl | apply nc_d rfl | apply nc_msl rfl | apply nc_mptr rfl | apply nc_fnc rfl)) (blk_nil rfl)) ?_
  refine twp_rseq ?_
  refine s_rd _ rfl (mv_d (.inr rfl) rfl) ?_
  refine tops_nil ?_
  refine twp_norm [1, 2, 5] (sub_d rfl (sub_mptr rfl (sub_d rfl .nil))) (blk_box rfl (blk_nil rfl)) ?_
  refine twp_seq ?_
  refine twp_rseq ?_
  refine s_rd _ rfl (mv_d (.inr rfl) rfl) ?_
  refine tops_nil ?_
  refine twp_norm [1, 2, 5, 6] (sub_d rfl (sub_mptr rfl (sub_d rfl (sub_d rfl .nil)))) (blk_box rfl (blk_nil rfl)) ?_
  refine twp_block ?_
  refine twp_whileK (fun i => ([(5, .d (.int .i64 (min ((1 + Ex.sizes (e.args.take i) : Nat) : Int) (m + 1)))), (6, .d (.int .i64 ((i : Nat) : Int)))] : Fr)) (fun i => ([] : List (Nat × Blk))) (fun i => i ≤ e.args.length) (fun i => e.args.length - i) [5, 6] [1, 2] [0] 0 (by decide) (fun i hi => absurd hi (Nat.not_lt_zero i)) (Nat.zero_le _) (sub_d rfl (sub_mptr rfl .nil)) rfl (by rw [List.take_zero]; show _ = [(5, AV.d (.int .i64 (min ((1 + 0 : Nat) : Int) (m + 1)))), _]; rw [Int.min_eq_left (by omega)]; rfl) (blk_box rfl (blk_nil rfl)) rfl ?_
  rintro i hok
  refine twp_norm [5, 6, 1, 2] (sub_d rfl (sub_d rfl (sub_d rfl (sub_mptr rfl .nil)))) (blk_box rfl (blk_nil rfl)) ?_
  refine twp_seq ?_
  refine twp_rseq ?_
  refine s_rd _ rfl (mv_d (.inl rfl) rfl) ?_
  refine s_rd _ rfl (fieldAddr_mptr rfl fld47_2 rfl rfl) ?_
  refine s_rd _ rfl (by first | exact load_box_d rfl lay45 rfl rfl rfl | exact load_box rfl lay45 rfl rfl rfl) ?_
  refine s_rd _ rfl (by first | exact len_d rfl sel45 rfl (by first | exact List.length_map _ | exact Ex.encs_length _ | rfl) | exact len_msl rfl sel45 rfl | exact len_nil rfl sel45 rfl) ?_
  refine s_rd _ rfl (cmp_int rfl rfl rfl rfl) ?_
  refine s_rd _ rfl (mv_d (.inl rfl) rfl) ?_
  refine s_split 12 rfl (fun hlt => ?_) (fun hlt => ?_)
  · have hlt : i < e.args.length := by simpa using hlt
    obtain ⟨a, ha⟩ := get_lt hlt
    have hsz := Ex.sizes_succ ha
    refine s_yes rfl rfl rfl ?_
    refine s_rd _ rfl (mv_d (.inl rfl) rfl) ?_
    refine s_yes rfl rfl rfl ?_
    refine s_rd _ rfl (mv_d (.inl rfl) rfl) ?_
    refine s_yes rfl rfl rfl ?_
    refine s_rd _ rfl (cmp_int rfl rfl rfl rfl) ?_
    refine s_rd _ rfl (by first | exact pick_Td rfl rfl rfl | exact pick_T rfl rfl rfl) ?_
    refine tops_nil ?_
    refine twp_norm [1, 2, 5, 6, 16] (sub_d rfl (sub_mptr rfl (sub_d rfl (sub_d rfl (sub_d rfl .nil))))) (blk_box rfl (blk_nil rfl)) ?_
    refine twp_cond _ rfl (fun hle => ?_) (fun hle => ?_)
    · have hle := of_decide_eq_true hle
      refine twp_skip ?_
      refine way_then ?_
      refine twp_norm [1, 2, 5, 6] (sub_d rfl (sub_mptr rfl (sub_d rfl (sub_d rfl .nil)))) (blk_box rfl (blk_nil rfl)) ?_
      refine twp_seq ?_
      refine twp_block ?_
      refine twp_region ?_
      refine s_rd _ rfl (mv_d (.inl rfl) rfl) ?_
      refine s_rd _ rfl (fieldAddr_mptr rfl fld47_2 rfl rfl) ?_
      refine s_rd _ rfl (by first | exact load_box_d rfl lay45 rfl rfl rfl | exact load_box rfl lay45 rfl rfl rfl) ?_
      refine s_rd _ rfl (mv_d (.inl rfl) rfl) ?_
      refine s_rd _ rfl (by first | exact index_msl0 rfl sel45 rfl rfl (by first | assumption | omega | (simp; omega)) | exact index_sl rfl sel45 rfl rfl (Ex.idx_encs ha)) ?_
      refine s_rd _ rfl (by first | exact load_ptrW rfl lay47 rfl rfl rfl | exact load_flatW rfl lay47 rfl rfl (by first | rfl | assumption | (simp only [List.getElem?_map, Option.map_some, *]; done)) rfl rfl | exact load_boxA_d rfl lay47 rfl rfl (Nat.le_of_ble_eq_true rfl) rfl | exact load_boxA rfl lay47 rfl rfl (Nat.le_of_ble_eq_true rfl) rfl | exact load_ptrA rfl lay47 rfl (Nat.le_of_ble_eq_true rfl) rfl) ?_
      refine s_rd _ rfl (mv_d (.inl rfl) rfl) ?_
      refine s_rd _ rfl (mv_d (.inl rfl) rfl) ?_
      refine s_rd _ rfl (arith_ok rfl rfl rfl rfl (by omega)) ?_
      refine s_rd _ rfl (rd_callRN rfl rfl (by repeat (first | exact snaps_nil | refine snaps_cons (.d _) ?_ | refine snaps_cons (snap_full rfl (by simp)) ?_ | refine snaps_cons (snap_full rfl rfl) ?_ | refine snaps_cons (snap_boxD rfl rfl) ?_ | refine snaps_cons (snap_agg (by repeat (first | exact SnapsO.nil | refine SnapsO.cons (Snap.d _) rfl ?_ | refine SnapsO.cons (snap_full rfl rfl) rfl ?_))) ?_)) (ih a (List.mem_of_getElem? ha) _ (by omega) (by omega) (hw.arg a (List.mem_of_getElem? ha)))) ?_
      refine s_rd _ rfl (arith_to (r := (min ((1 + Ex.sizes (e.args.take (i + 1)) : Nat) : Int) (m + 1))) rfl rfl rfl rfl (by rw [hsz]; omega) (by omega)) ?_
      refine s_rd _ rfl (mv_d (.inr rfl) rfl) ?_
      refine tops_nil ?_
      refine way_block ?_
      refine way_then ?_
      refine twp_norm [1, 2, 5, 6] (sub_d rfl (sub_mptr rfl (sub_d rfl (sub_d rfl .nil)))) (blk_box rfl (blk_nil rfl)) ?_
      refine twp_region ?_
      refine s_rd _ rfl (mv_d (.inl rfl) rfl) ?_
      refine s_rd _ rfl (arith_ok rfl rfl rfl rfl (by omega)) ?_
      refine s_rd _ rfl (mv_d (.inr rfl) rfl) ?_
      refine tops_nil ?_
      refine way_then ?_
      exact ⟨(i + 1), [0], by decide, (fun i hi => absurd hi (Nat.not_lt_zero i)), (by omega), (by omega), rfl⟩
    · have hle := of_decide_eq_false hle
      have hspl := Ex.sizes_split e.args i
      have hfin : min ((1 + Ex.sizes (e.args.take i) : Nat) : Int) (m + 1) = min (e.size : Int) (m + 1) := by omega
      refine twp_exit ?_
      refine way_thenExit ?_
      refine way_thenExit ?_
      refine way_here ?_
      refine way_then ?_
      refine twp_norm [5] (sub_d rfl .nil) (blk_box rfl (blk_nil rfl)) ?_
      refine twp_rseq ?_
      refine s_rd _ rfl (mv_d (.inl rfl) rfl) ?_
      refine s_rd _ rfl (mv_d (.inr rfl) rfl) ?_
      refine tops_nil ?_
      refine twp_norm [4] (sub_d rfl .nil) (blk_box rfl (blk_nil rfl)) ?_
      refine twp_ret ?_
      exact Ends.plainI _ rfl hfin
  · have hge : ¬ i < e.args.length := by simpa using hlt
    have hi : i = e.args.length := by omega
    have hfin : min ((1 + Ex.sizes (e.args.take i) : Nat) : Int) (m + 1) = min (e.size : Int) (m + 1) := by rw [hi, List.take_length, ← Ex.size_eq]
    refine s_no rfl rfl rfl rfl ?_
    refine s_no rfl rfl rfl rfl ?_
    refine s_no rfl rfl rfl rfl ?_
    refine s_rd _ rfl (by first | exact pick_Fd rfl rfl rfl | exact pick_F rfl rfl rfl) ?_
    refine tops_nil ?_
    refine twp_norm [1, 2, 5, 6, 16] (sub_d rfl (sub_mptr rfl (sub_d rfl (sub_d rfl (sub_d rfl .nil))))) (blk_box rfl (blk_nil rfl)) ?_
    refine twp_cond false rfl (fun h => by cases h) (fun _ => ?_)
    refine twp_exit ?_
    refine way_thenExit ?_
    refine way_thenExit ?_
    refine way_here ?_
    refine way_then ?_
    refine twp_norm [5] (sub_d rfl .nil) (blk_box rfl (blk_nil rfl)) ?_
    refine twp_rseq ?_
    refine s_rd _ rfl (mv_d (.inl rfl) rfl) ?_
    refine s_rd _ rfl (mv_d (.inr rfl) rfl) ?_
    refine tops_nil ?_
    refine twp_norm [4] (sub_d rfl .nil) (blk_box rfl (blk_nil rfl)) ?_
    refine twp_ret ?_
    exact Ends.plainI _ rfl hfin

theorem count_n : ∀ (e : Ex) (m : Int), 0 ≤ m → m ≤ 1000 → e.Wf → RetN Try.prog 26 [e.enc, .int .i64 m] (.int .i64 (min (e.size : Int) (m + 1))) := Ex.ind fun e ih m h0 h1 hw => .unit (count_step e m h0 h1 ih hw) rfl

end Go.Proofs.Yteedddlipoonoaa
