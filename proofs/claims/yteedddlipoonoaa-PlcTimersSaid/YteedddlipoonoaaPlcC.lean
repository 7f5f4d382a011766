/- Expressions: the program's own side, walked. No condition. -/
import Derived.Test.YteedddlipoonoaaPlcB
import Derived.KernelRfl
set_option linter.unusedSimpArgs false
set_option linter.unusedVariables false
namespace Go.Proofs.Yteedddlipoonoaa
open Go Go.TL

theorem callB46 : callB Try.prog 46 = true := by kernel_rfl

theorem plc75 : plc Try.prog 75 = some [(0, 1)] := by kernel_rfl

theorem zero75 : (Try.prog.info? 75).bind (·.zero) = Option.some (Go.Value.agg #[Go.Value.pointer Option.none]) := by kernel_rfl

theorem conc75 : conc Try.prog 75 = true := by kernel_rfl

theorem plc76 : plc Try.prog 76 = some [(0, 1)] := by kernel_rfl

theorem zero76 : (Try.prog.info? 76).bind (·.zero) = Option.some (Go.Value.agg #[Go.Value.pointer Option.none]) := by kernel_rfl

theorem conc76 : conc Try.prog 76 = true := by kernel_rfl

theorem plc79 : plc Try.prog 79 = some [(0, 1)] := by kernel_rfl

theorem zero79 : (Try.prog.info? 79).bind (·.zero) = Option.some (Go.Value.agg #[Go.Value.pointer Option.none]) := by kernel_rfl

theorem conc79 : conc Try.prog 79 = true := by kernel_rfl

theorem plc77 : plc Try.prog 77 = some [(0, 1)] := by kernel_rfl

theorem zero77 : (Try.prog.info? 77).bind (·.zero) = Option.some (Go.Value.agg #[Go.Value.pointer Option.none]) := by kernel_rfl

theorem conc77 : conc Try.prog 77 = true := by kernel_rfl

theorem plc78 : plc Try.prog 78 = some [(0, 1)] := by kernel_rfl

theorem zero78 : (Try.prog.info? 78).bind (·.zero) = Option.some (Go.Value.agg #[Go.Value.pointer Option.none]) := by kernel_rfl

theorem conc78 : conc Try.prog 78 = true := by kernel_rfl

theorem node_step (e : Ex) : Ret Try.prog 46 [] (fun _ => false) ([D.ptr e.enc 0].map .d) (.d (.iface e.nodeT (.agg [.ptr e.enc 0]))) [] := by
  refine ret_body callB46 Try.func46 rfl Try.ntmps46 rfl rfl (fun wX gX => ?_)
  refine twp_norm [0] (sub_d rfl .nil) (blk_nil rfl) ?_
  refine twp_rseq ?_
  refine s_rd _ rfl (mv_d (.inr rfl) rfl) ?_
  refine tops_nil ?_
  refine twp_norm [0] (sub_d rfl .nil) (blk_nil rfl) ?_
  refine twp_seq ?_
  refine twp_rseq ?_
  refine s_rd _ rfl (mv_d (.inl rfl) rfl) ?_
  refine s_rd _ rfl (rd_nilCheck (.d _) rfl rfl rfl) ?_
  refine s_rd _ rfl (fieldAddr_ptr rfl fld47_0 rfl rfl) ?_
  refine s_rd _ rfl (load_ptr rfl lay3 rfl rfl) ?_
  refine tops_nil ?_
  refine twp_norm [0, 6] (sub_d rfl (sub_d rfl .nil)) (blk_nil rfl) ?_
  refine twp_block ?_
  refine twp_rseq ?_
  refine s_rd _ rfl (cmp_int rfl rfl rfl rfl) ?_
  refine s_rd _ rfl (mv_d (.inr rfl) rfl) ?_
  refine tops_nil ?_
  refine twp_norm [0, 6, 7] (sub_d rfl (sub_d rfl (sub_d rfl .nil))) (blk_nil rfl) ?_
  refine twp_cond _ rfl (fun h0 => ?_) (fun h0 => ?_)
  · refine twp_rseq ?_
    refine s_rd _ rfl (mv_d (.inl rfl) rfl) ?_
    refine s_rd _ rfl (by first | exact build_d rfl plc75 zero75 rfl rfl rfl rfl | exact rd_build rfl plc75 zero75 rfl rfl rfl rfl) ?_
    refine s_rd _ rfl (rd_mkIface rfl conc75 rfl) ?_
    refine s_rd _ rfl (mv_d (.inr rfl) rfl) ?_
    refine tops_nil ?_
    refine twp_norm [2] (sub_d rfl .nil) (blk_nil rfl) ?_
    refine twp_ret ?_
    refine way_blockRet ?_
    refine way_thenRet ?_
    exact Ends.plainE _ rfl (by unfold Ex.nodeT; (try simp only [decide_eq_true_eq, decide_eq_false_iff_not] at *); (try simp only [*]); first | rfl | (simp; done) | (simp_all; done))
  · refine twp_rseq ?_
    refine s_rd _ rfl (cmp_int rfl rfl rfl rfl) ?_
    refine s_rd _ rfl (mv_d (.inr rfl) rfl) ?_
    refine tops_nil ?_
    refine twp_norm [0, 6, 12] (sub_d rfl (sub_d rfl (sub_d rfl .nil))) (blk_nil rfl) ?_
    refine twp_cond _ rfl (fun h1 => ?_) (fun h1 => ?_)
    · refine twp_rseq ?_
      refine s_rd _ rfl (mv_d (.inl rfl) rfl) ?_
      refine s_rd _ rfl (rd_nilCheck (.d _) rfl rfl rfl) ?_
      refine s_rd _ rfl (fieldAddr_ptr rfl fld47_2 rfl rfl) ?_
      refine s_rd _ rfl (load_ptr rfl lay45 rfl rfl) ?_
      refine s_rd _ rfl (by first | exact len_d rfl sel45 rfl (by first | exact List.length_map _ | exact Ex.encs_length _ | rfl) | exact len_nil rfl sel45 rfl) ?_
      refine s_rd _ rfl (cmp_int rfl rfl rfl rfl) ?_
      refine tops_nil ?_
      refine twp_norm [0, 19] (sub_d rfl (sub_d rfl .nil)) (blk_nil rfl) ?_
      refine twp_cond _ rfl (fun h2 => ?_) (fun h2 => ?_)
      · have hpos : 0 < e.args.length := by simpa using h2
        refine twp_rseq ?_
        refine s_rd _ rfl (mv_d (.inl rfl) rfl) ?_
        refine s_rd _ rfl (by first | exact build_d rfl plc76 zero76 rfl rfl rfl rfl | exact rd_build rfl plc76 zero76 rfl rfl rfl rfl) ?_
        refine s_rd _ rfl (rd_mkIface rfl conc76 rfl) ?_
        refine s_rd _ rfl (mv_d (.inr rfl) rfl) ?_
        refine tops_nil ?_
        refine twp_norm [2] (sub_d rfl .nil) (blk_nil rfl) ?_
        refine twp_ret ?_
        refine way_blockRet ?_
        refine way_thenRet ?_
        exact Ends.plainE _ rfl (by unfold Ex.nodeT; (try simp only [decide_eq_true_eq, decide_eq_false_iff_not] at *); (try simp only [*]); first | rfl | (simp; done) | (simp_all; done))
      · have hpos : e.args.length = 0 := by simpa using h2
        refine twp_skip ?_
        refine way_block ?_
        refine way_then ?_
        refine twp_norm [0] (sub_d rfl .nil) (blk_nil rfl) ?_
        refine twp_rseq ?_
        refine s_rd _ rfl (mv_d (.inl rfl) rfl) ?_
        refine s_rd _ rfl (by first | exact build_d rfl plc79 zero79 rfl rfl rfl rfl | exact rd_build rfl plc79 zero79 rfl rfl rfl rfl) ?_
        refine s_rd _ rfl (rd_mkIface rfl conc79 rfl) ?_
        refine s_rd _ rfl (mv_d (.inr rfl) rfl) ?_
        refine tops_nil ?_
        refine twp_norm [2] (sub_d rfl .nil) (blk_nil rfl) ?_
        refine twp_ret ?_
        exact Ends.plainE _ rfl (by unfold Ex.nodeT; (try simp only [decide_eq_true_eq, decide_eq_false_iff_not] at *); (try simp only [*]); first | rfl | (simp; done) | (simp_all; done))
    · refine twp_rseq ?_
      refine s_rd _ rfl (cmp_int rfl rfl rfl rfl) ?_
      refine s_rd _ rfl (mv_d (.inr rfl) rfl) ?_
      refine tops_nil ?_
      refine twp_norm [0, 6, 23] (sub_d rfl (sub_d rfl (sub_d rfl .nil))) (blk_nil rfl) ?_
      refine twp_cond _ rfl (fun h3 => ?_) (fun h3 => ?_)
      · refine twp_rseq ?_
        refine s_rd _ rfl (mv_d (.inl rfl) rfl) ?_
        refine s_rd _ rfl (by first | exact build_d rfl plc77 zero77 rfl rfl rfl rfl | exact rd_build rfl plc77 zero77 rfl rfl rfl rfl) ?_
        refine s_rd _ rfl (rd_mkIface rfl conc77 rfl) ?_
        refine s_rd _ rfl (mv_d (.inr rfl) rfl) ?_
        refine tops_nil ?_
        refine twp_norm [2] (sub_d rfl .nil) (blk_nil rfl) ?_
        refine twp_ret ?_
        refine way_blockRet ?_
        refine way_thenRet ?_
        exact Ends.plainE _ rfl (by unfold Ex.nodeT; (try simp only [decide_eq_true_eq, decide_eq_false_iff_not] at *); (try simp only [*]); first | rfl | (simp; done) | (simp_all; done))
      · refine twp_rseq ?_
        refine s_rd _ rfl (cmp_int rfl rfl rfl rfl) ?_
        refine s_rd _ rfl (mv_d (.inr rfl) rfl) ?_
        refine tops_nil ?_
        refine twp_norm [0, 28] (sub_d rfl (sub_d rfl .nil)) (blk_nil rfl) ?_
        refine twp_cond _ rfl (fun h4 => ?_) (fun h4 => ?_)
        · refine twp_rseq ?_
          refine s_rd _ rfl (mv_d (.inl rfl) rfl) ?_
          refine s_rd _ rfl (by first | exact build_d rfl plc78 zero78 rfl rfl rfl rfl | exact rd_build rfl plc78 zero78 rfl rfl rfl rfl) ?_
          refine s_rd _ rfl (rd_mkIface rfl conc78 rfl) ?_
          refine s_rd _ rfl (mv_d (.inr rfl) rfl) ?_
          refine tops_nil ?_
          refine twp_norm [2] (sub_d rfl .nil) (blk_nil rfl) ?_
          refine twp_ret ?_
          refine way_blockRet ?_
          refine way_thenRet ?_
          exact Ends.plainE _ rfl (by unfold Ex.nodeT; (try simp only [decide_eq_true_eq, decide_eq_false_iff_not] at *); (try simp only [*]); first | rfl | (simp; done) | (simp_all; done))
        · refine twp_skip ?_
          refine way_block ?_
          refine way_then ?_
          refine twp_norm [0] (sub_d rfl .nil) (blk_nil rfl) ?_
          refine twp_rseq ?_
          refine s_rd _ rfl (mv_d (.inl rfl) rfl) ?_
          refine s_rd _ rfl (by first | exact build_d rfl plc79 zero79 rfl rfl rfl rfl | exact rd_build rfl plc79 zero79 rfl rfl rfl rfl) ?_
          refine s_rd _ rfl (rd_mkIface rfl conc79 rfl) ?_
          refine s_rd _ rfl (mv_d (.inr rfl) rfl) ?_
          refine tops_nil ?_
          refine twp_norm [2] (sub_d rfl .nil) (blk_nil rfl) ?_
          refine twp_ret ?_
          exact Ends.plainE _ rfl (by unfold Ex.nodeT; (try simp only [decide_eq_true_eq, decide_eq_false_iff_not] at *); (try simp only [*]); first | rfl | (simp; done) | (simp_all; done))

theorem node_d (e : Ex) (t : Nat) (ht : e.nodeT = t) : RetD Try.prog 46 [.ptr e.enc 0] (.iface t (.agg [.ptr e.enc 0])) := ht ▸ .of (mv := fun _ => false) (node_step e)

theorem callB41 : callB Try.prog 41 = true := by kernel_rfl

theorem lay75 : lay Try.prog 75 = some (true, 1) := by kernel_rfl

theorem fld75_0 : fld Try.prog 75 0 = some 0 := by kernel_rfl

theorem lay67 : lay Try.prog 67 = some (false, 1) := by kernel_rfl

theorem eval_75 (e : Ex) (vs : List Bool) (hv : vs.length ≤ 9223372036854775807) (ih : ∀ a ∈ e.args, a.Wf → RetN Try.prog 41 [.ptr a.enc 0, bools vs] (.bool (a.eval vs))) (hw : e.Wf) (ht : e.nodeT = 75) (ho : e.op = 3) : Ret Try.prog 41 [] (fun _ => false) ([D.ptr e.enc 0, bools vs].map .d) (.d (.bool (e.eval vs))) [] := by
  have hlen := hw.len
  refine ret_body callB41 Try.func41 rfl Try.ntmps41 rfl rfl (fun wX gX => ?_)
  refine twp_norm [0, 1] (sub_d rfl (sub_d rfl .nil)) (blk_nil rfl) ?_
  refine twp_rseq ?_
  refine s_rd _ rfl (mv_d (.inr rfl) rfl) ?_
  refine tops_nil ?_
  refine twp_norm [0, 1] (sub_d rfl (sub_d rfl .nil)) (blk_nil rfl) ?_
  refine twp_seq ?_
  refine twp_rseq ?_
  refine s_rd _ rfl (mv_d (.inl rfl) rfl) ?_
  refine s_rd _ rfl (rd_callRD rfl rfl rfl (node_d e 75 ht)) ?_
  refine tops_nil ?_
  refine twp_norm [0, 1, 12] (sub_d rfl (sub_d rfl (sub_d rfl .nil))) (blk_nil rfl) ?_
  refine twp_block ?_
  refine twp_rseq ?_
  refine s_rd _ rfl (by first | exact rd_assertYes rfl conc75 rfl | exact rd_assertNo rfl conc75 rfl rfl zero75 rfl) ?_
  refine s_rd _ rfl (by first | exact extract_d rfl rfl rfl | exact extract_msl rfl rfl rfl | exact extract_any rfl rfl rfl) ?_
  refine s_eq 14 (.d (.bool true)) rfl rfl ?_
  refine s_rd _ rfl (by first | exact extract_d rfl rfl rfl | exact extract_msl rfl rfl rfl | exact extract_any rfl rfl rfl) ?_
  refine tops_nil ?_
  refine twp_norm [0, 1, 12, 14, 15] (by repeat (first | exact SubK.nil | apply sub_d rfl | apply sub_msl rfl | apply sub_mptr rfl | apply SubK.cons _ _ _ _ rfl)) (blk_nil rfl) ?_
  refine twp_cond true rfl (fun _ => ?_) (fun h => by cases h)
  refine twp_rseq ?_
  refine s_alloc rfl zero75 rfl rfl ?_
  refine s_eq 5 (.mptr 0 0 0 0) rfl rfl ?_
  refine s_store_box lay75 rfl rfl rfl rfl rfl (Nat.le_of_ble_eq_true rfl) rfl ?_
  refine tops_nil ?_
  refine twp_norm [1, 5] (sub_d rfl (sub_mptr rfl .nil)) (blk_boxN rfl (by repeat (first | exact NormC.nil rfl | apply nc_d rfl | apply nc_msl rfl | apply nc_mptr rfl | apply nc_fnc rfl)) (blk_nil rfl)) ?_
  refine twp_rseq ?_
  refine s_rd _ rfl (fieldAddr_mptr rfl fld75_0 rfl rfl) ?_
  refine s_rd _ rfl (by first | exact load_box_d rfl lay67 rfl rfl rfl | exact load_box rfl lay67 rfl rfl rfl) ?_
  refine s_rd _ rfl (by first | exact rd_nilCheck (.d _) rfl rfl rfl | exact rd_nilCheck (.mptr _ _ _ _) rfl rfl rfl | exact rd_nilCheck _ rfl rfl rfl) ?_
  refine s_rd _ rfl (by first | exact fieldAddr_ptr rfl fld47_1 rfl rfl | exact fieldAddr_mptr rfl fld47_1 rfl rfl) ?_
  refine s_rd _ rfl (by first | exact load_ptr rfl lay3 rfl rfl | exact load_flat rfl lay3 rfl rfl (by first | rfl | assumption | (simp only [List.getElem?_map, Option.map_some, *]; done)) rfl | exact load_box_d rfl lay3 rfl rfl rfl | exact load_box rfl lay3 rfl rfl rfl) ?_
  refine s_rd _ rfl (cmp_int rfl rfl rfl rfl) ?_
  refine s_rd _ rfl (mv_d (.inl rfl) rfl) ?_
  refine s_split 22 rfl (fun h0v => ?_) (fun h0v => ?_)
  · have h0v : 0 ≤ e.var := of_decide_eq_true h0v
    refine s_yes rfl rfl rfl ?_
    refine s_rd _ rfl (fieldAddr_mptr rfl fld75_0 rfl rfl) ?_
    refine s_yes rfl rfl rfl ?_
    refine s_rd _ rfl (by first | exact load_box_d rfl lay67 rfl rfl rfl | exact load_box rfl lay67 rfl rfl rfl) ?_
    refine s_yes rfl rfl rfl ?_
    refine s_rd _ rfl (by first | exact rd_nilCheck (.d _) rfl rfl rfl | exact rd_nilCheck (.mptr _ _ _ _) rfl rfl rfl | exact rd_nilCheck _ rfl rfl rfl) ?_
    refine s_yes rfl rfl rfl ?_
    refine s_rd _ rfl (by first | exact fieldAddr_ptr rfl fld47_1 rfl rfl | exact fieldAddr_mptr rfl fld47_1 rfl rfl) ?_
    refine s_yes rfl rfl rfl ?_
    refine s_rd _ rfl (by first | exact load_ptr rfl lay3 rfl rfl | exact load_flat rfl lay3 rfl rfl (by first | rfl | assumption | (simp only [List.getElem?_map, Option.map_some, *]; done)) rfl | exact load_box_d rfl lay3 rfl rfl rfl | exact load_box rfl lay3 rfl rfl rfl) ?_
    refine s_yes rfl rfl rfl ?_
    refine s_rd _ rfl (mv_d (.inl rfl) rfl) ?_
    refine s_yes rfl rfl rfl ?_
    refine s_rd _ rfl (by first | exact len_d rfl sel31 rfl (by first | exact List.length_map _ | rfl) | exact len_nil rfl sel31 rfl) ?_
    refine s_yes rfl rfl rfl ?_
    refine s_rd _ rfl (cmp_int rfl rfl rfl rfl) ?_
    refine s_rd _ rfl (by first | exact pick_Td rfl rfl rfl | exact pick_T rfl rfl rfl) ?_
    refine s_rd _ rfl (mv_d (.inl rfl) rfl) ?_
    refine s_split 32 rfl (fun h1v => ?_) (fun h1v => ?_)
    · have h1v : e.var < vs.length := of_decide_eq_true h1v
      obtain ⟨b, hb⟩ := get_lt (xs := vs) (i := e.var.toNat) (by omega)
      have hlk := Ex.look_get h0v hb
      refine s_yes rfl rfl rfl ?_
      refine s_rd _ rfl (mv_d (.inl rfl) rfl) ?_
      refine s_yes rfl rfl rfl ?_
      refine s_rd _ rfl (fieldAddr_mptr rfl fld75_0 rfl rfl) ?_
      refine s_yes rfl rfl rfl ?_
      refine s_rd _ rfl (by first | exact load_box_d rfl lay67 rfl rfl rfl | exact load_box rfl lay67 rfl rfl rfl) ?_
      refine s_yes rfl rfl rfl ?_
      refine s_rd _ rfl (by first | exact rd_nilCheck (.d _) rfl rfl rfl | exact rd_nilCheck (.mptr _ _ _ _) rfl rfl rfl | exact rd_nilCheck _ rfl rfl rfl) ?_
      refine s_yes rfl rfl rfl ?_
      refine s_rd _ rfl (by first | exact fieldAddr_ptr rfl fld47_1 rfl rfl | exact fieldAddr_mptr rfl fld47_1 rfl rfl) ?_
      refine s_yes rfl rfl rfl ?_
      refine s_rd _ rfl (by first | exact load_ptr rfl lay3 rfl rfl | exact load_flat rfl lay3 rfl rfl (by first | rfl | assumption | (simp only [List.getElem?_map, Option.map_some, *]; done)) rfl | exact load_box_d rfl lay3 rfl rfl rfl | exact load_box rfl lay3 rfl rfl rfl) ?_
      refine s_yes rfl rfl rfl ?_
      refine s_rd _ rfl (index_sl rfl sel31 rfl rfl (idx_int h0v hb)) ?_
      refine s_yes rfl rfl rfl ?_
      refine s_rd _ rfl (load_ptr rfl lay4 rfl rfl) ?_
      refine s_rd _ rfl (by first | exact pick_Td rfl rfl rfl | exact pick_T rfl rfl rfl) ?_
      refine s_rd _ rfl (mv_d (.inr rfl) rfl) ?_
      refine tops_nil ?_
      refine twp_norm [4] (sub_d rfl .nil) (blk_box rfl (blk_nil rfl)) ?_
      refine twp_ret ?_
      refine way_blockRet ?_
      refine way_thenRet ?_
      exact Ends.plainB _ rfl (by rw [Ex.eval_eq e]; (try rw [hlk]); (try rw [hcons]); (first | rw [hno] | rw [hall] | skip); simp [*])
    · have hlk : Ex.look vs e.var = false := Ex.look_out (by have := of_decide_eq_false h1v; omega)
      refine s_no rfl rfl rfl rfl ?_
      refine s_no rfl rfl rfl rfl ?_
      refine s_no rfl rfl rfl rfl ?_
      refine s_no rfl rfl rfl rfl ?_
      refine s_no rfl rfl rfl rfl ?_
      refine s_no rfl rfl rfl rfl ?_
      refine s_no rfl rfl rfl rfl ?_
      refine s_no rfl rfl rfl rfl ?_
      refine s_rd _ rfl (by first | exact pick_Fd rfl rfl rfl | exact pick_F rfl rfl rfl) ?_
      refine s_rd _ rfl (mv_d (.inr rfl) rfl) ?_
      refine tops_nil ?_
      refine twp_norm [4] (sub_d rfl .nil) (blk_box rfl (blk_nil rfl)) ?_
      refine twp_ret ?_
      refine way_blockRet ?_
      refine way_thenRet ?_
      exact Ends.plainB _ rfl (by rw [Ex.eval_eq e]; (try rw [hlk]); (try rw [hcons]); (first | rw [hno] | rw [hall] | skip); simp [*])
  · have hlk : Ex.look vs e.var = false := Ex.look_out (by have := of_decide_eq_false h0v; omega)
    refine s_no rfl rfl rfl rfl ?_
    refine s_no rfl rfl rfl rfl ?_
    refine s_no rfl rfl rfl rfl ?_
    refine s_no rfl rfl rfl rfl ?_
    refine s_no rfl rfl rfl rfl ?_
    refine s_no rfl rfl rfl rfl ?_
    refine s_no rfl rfl rfl rfl ?_
    refine s_no rfl rfl rfl rfl ?_
    refine s_rd _ rfl (by first | exact pick_Fd rfl rfl rfl | exact pick_F rfl rfl rfl) ?_
    refine s_rd _ rfl (mv_d (.inl rfl) rfl) ?_
    refine s_no rfl rfl rfl rfl ?_
    refine s_no rfl rfl rfl rfl ?_
    refine s_no rfl rfl rfl rfl ?_
    refine s_no rfl rfl rfl rfl ?_
    refine s_no rfl rfl rfl rfl ?_
    refine s_no rfl rfl rfl rfl ?_
    refine s_no rfl rfl rfl rfl ?_
    refine s_no rfl rfl rfl rfl ?_
    refine s_rd _ rfl (by first | exact pick_Fd rfl rfl rfl | exact pick_F rfl rfl rfl) ?_
    refine s_rd _ rfl (mv_d (.inr rfl) rfl) ?_
    refine tops_nil ?_
    refine twp_norm [4] (sub_d rfl .nil) (blk_box rfl (blk_nil rfl)) ?_
    refine twp_ret ?_
    refine way_blockRet ?_
    refine way_thenRet ?_
    exact Ends.plainB _ rfl (by rw [Ex.eval_eq e]; (try rw [hlk]); (try rw [hcons]); (first | rw [hno] | rw [hall] | skip); simp [*])

theorem lay76 : lay Try.prog 76 = some (true, 1) := by kernel_rfl

theorem fld76_0 : fld Try.prog 76 0 = some 0 := by kernel_rfl

theorem eval_76 (e : Ex) (vs : List Bool) (hv : vs.length ≤ 9223372036854775807) (ih : ∀ a ∈ e.args, a.Wf → RetN Try.prog 41 [.ptr a.enc 0, bools vs] (.bool (a.eval vs))) (hw : e.Wf) (ht : e.nodeT = 76) (ho : e.op = 4 ∧ ∃ a r, e.args = a :: r) : Ret Try.prog 41 [] (fun _ => false) ([D.ptr e.enc 0, bools vs].map .d) (.d (.bool (e.eval vs))) [] := by
  have hlen := hw.len
  refine ret_body callB41 Try.func41 rfl Try.ntmps41 rfl rfl (fun wX gX => ?_)
  refine twp_norm [0, 1] (sub_d rfl (sub_d rfl .nil)) (blk_nil rfl) ?_
  refine twp_rseq ?_
  refine s_rd _ rfl (mv_d (.inr rfl) rfl) ?_
  refine tops_nil ?_
  refine twp_norm [0, 1] (sub_d rfl (sub_d rfl .nil)) (blk_nil rfl) ?_
  refine twp_seq ?_
  refine twp_rseq ?_
  refine s_rd _ rfl (mv_d (.inl rfl) rfl) ?_
  refine s_rd _ rfl (rd_callRD rfl rfl rfl (node_d e 76 ht)) ?_
  refine tops_nil ?_
  refine twp_norm [0, 1, 12] (sub_d rfl (sub_d rfl (sub_d rfl .nil))) (blk_nil rfl) ?_
  refine twp_block ?_
  refine twp_rseq ?_
  refine s_rd _ rfl (by first | exact rd_assertYes rfl conc75 rfl | exact rd_assertNo rfl conc75 rfl rfl zero75 rfl) ?_
  refine s_rd _ rfl (by first | exact extract_d rfl rfl rfl | exact extract_msl rfl rfl rfl | exact extract_any rfl rfl rfl) ?_
  refine s_eq 14 (.d (.bool false)) rfl rfl ?_
  refine s_rd _ rfl (by first | exact extract_d rfl rfl rfl | exact extract_msl rfl rfl rfl | exact extract_any rfl rfl rfl) ?_
  refine tops_nil ?_
  refine twp_norm [0, 1, 12, 14, 15] (by repeat (first | exact SubK.nil | apply sub_d rfl | apply sub_msl rfl | apply sub_mptr rfl | apply SubK.cons _ _ _ _ rfl)) (blk_nil rfl) ?_
  refine twp_cond false rfl (fun h => by cases h) (fun _ => ?_)
  refine twp_rseq ?_
  refine s_rd _ rfl (by first | exact rd_assertYes rfl conc76 rfl | exact rd_assertNo rfl conc76 rfl rfl zero76 rfl) ?_
  refine s_rd _ rfl (by first | exact extract_d rfl rfl rfl | exact extract_msl rfl rfl rfl | exact extract_any rfl rfl rfl) ?_
  refine s_eq 43 (.d (.bool true)) rfl rfl ?_
  refine s_rd _ rfl (by first | exact extract_d rfl rfl rfl | exact extract_msl rfl rfl rfl | exact extract_any rfl rfl rfl) ?_
  refine tops_nil ?_
  refine twp_norm [0, 1, 12, 43, 44] (by repeat (first | exact SubK.nil | apply sub_d rfl | apply sub_msl rfl | apply sub_mptr rfl | apply SubK.cons _ _ _ _ rfl)) (blk_nil rfl) ?_
  refine twp_cond true rfl (fun _ => ?_) (fun h => by cases h)
  refine twp_rseq ?_
  refine s_alloc rfl zero76 rfl rfl ?_
  refine s_eq 6 (.mptr 0 0 0 0) rfl rfl ?_
  refine s_store_box lay76 rfl rfl rfl rfl rfl (Nat.le_of_ble_eq_true rfl) rfl ?_
  refine tops_nil ?_
  refine twp_norm [1, 6] (sub_d rfl (sub_mptr rfl .nil)) (blk_boxN rfl (by repeat (first | exact NormC.nil rfl | apply nc_d rfl | apply nc_msl rfl | apply nc_mptr rfl | apply nc_fnc rfl)) (blk_nil rfl)) ?_
  refine twp_rseq ?_
  obtain ⟨ho, a, r, hcons⟩ := ho
  have ha : e.args[0]? = some a := by rw [hcons]; rfl
  refine s_rd _ rfl (fieldAddr_mptr rfl fld76_0 rfl rfl) ?_
  refine s_rd _ rfl (by first | exact load_box_d rfl lay67 rfl rfl rfl | exact load_box rfl lay67 rfl rfl rfl) ?_
  refine s_rd _ rfl (by first | exact rd_nilCheck (.d _) rfl rfl rfl | exact rd_nilCheck (.mptr _ _ _ _) rfl rfl rfl | exact rd_nilCheck _ rfl rfl rfl) ?_
  refine s_rd _ rfl (by first | exact fieldAddr_ptr rfl fld47_2 rfl rfl | exact fieldAddr_mptr rfl fld47_2 rfl rfl) ?_
  refine s_rd _ rfl (by first | exact load_ptr rfl lay45 rfl rfl | exact load_flat rfl lay45 rfl rfl (by first | rfl | assumption | (simp only [List.getElem?_map, Option.map_some, *]; done)) rfl | exact load_box_d rfl lay45 rfl rfl rfl | exact load_box rfl lay45 rfl rfl rfl) ?_
  refine s_rd _ rfl (by first | exact index_msl0 rfl sel45 rfl rfl (by first | assumption | omega | (simp; omega)) | exact index_sl rfl sel45 rfl rfl ⟨by decide, Ex.encs_get ha⟩) ?_
  refine s_rd _ rfl (mv_d (.inl rfl) rfl) ?_
  refine s_rd _ rfl (rd_callRN rfl rfl (by repeat (first | exact snaps_nil | refine snaps_cons (.d _) ?_ | refine snaps_cons (snap_full rfl (by simp)) ?_ | refine snaps_cons (snap_full rfl rfl) ?_ | refine snaps_cons (snap_boxD rfl rfl) ?_ | refine snaps_cons (snap_agg (by repeat (first | exact SnapsO.nil | refine SnapsO.cons (Snap.d _) rfl ?_ | refine SnapsO.cons (snap_full rfl rfl) rfl ?_))) ?_)) (ih a (List.mem_of_getElem? ha) (hw.arg a (List.mem_of_getElem? ha)))) ?_
  refine s_rd _ rfl (not_b rfl rfl rfl) ?_
  refine s_rd _ rfl (mv_d (.inr rfl) rfl) ?_
  refine tops_nil ?_
  refine twp_norm [4] (sub_d rfl .nil) (blk_box rfl (blk_nil rfl)) ?_
  refine twp_ret ?_
  refine way_blockRet ?_
  refine way_thenRet ?_
  exact Ends.plainB _ rfl (by rw [Ex.eval_eq e]; (try rw [hlk]); (try rw [hcons]); (first | rw [hno] | rw [hall] | skip); simp [*])

theorem lay77 : lay Try.prog 77 = some (true, 1) := by kernel_rfl

theorem fld77_0 : fld Try.prog 77 0 = some 0 := by kernel_rfl

theorem eval_77 (e : Ex) (vs : List Bool) (hv : vs.length ≤ 9223372036854775807) (ih : ∀ a ∈ e.args, a.Wf → RetN Try.prog 41 [.ptr a.enc 0, bools vs] (.bool (a.eval vs))) (hw : e.Wf) (ht : e.nodeT = 77) (ho : e.op = 5) : Ret Try.prog 41 [] (fun _ => false) ([D.ptr e.enc 0, bools vs].map .d) (.d (.bool (e.eval vs))) [] := by
  have hlen := hw.len
  refine ret_body callB41 Try.func41 rfl Try.ntmps41 rfl rfl (fun wX gX => ?_)
  refine twp_norm [0, 1] (sub_d rfl (sub_d rfl .nil)) (blk_nil rfl) ?_
  refine twp_rseq ?_
  refine s_rd _ rfl (mv_d (.inr rfl) rfl) ?_
  refine tops_nil ?_
  refine twp_norm [0, 1] (sub_d rfl (sub_d rfl .nil)) (blk_nil rfl) ?_
  refine twp_seq ?_
  refine twp_rseq ?_
  refine s_rd _ rfl (mv_d (.inl rfl) rfl) ?_
  refine s_rd _ rfl (rd_callRD rfl rfl rfl (node_d e 77 ht)) ?_
  refine tops_nil ?_
  refine twp_norm [0, 1, 12] (sub_d rfl (sub_d rfl (sub_d rfl .nil))) (blk_nil rfl) ?_
  refine twp_block ?_
  refine twp_rseq ?_
  refine s_rd _ rfl (by first | exact rd_assertYes rfl conc75 rfl | exact rd_assertNo rfl conc75 rfl rfl zero75 rfl) ?_
  refine s_rd _ rfl (by first | exact extract_d rfl rfl rfl | exact extract_msl rfl rfl rfl | exact extract_any rfl rfl rfl) ?_
  refine s_eq 14 (.d (.bool false)) rfl rfl ?_
  refine s_rd _ rfl (by first | exact extract_d rfl rfl rfl | exact extract_msl rfl rfl rfl | exact extract_any rfl rfl rfl) ?_
  refine tops_nil ?_
  refine twp_norm [0, 1, 12, 14, 15] (by repeat (first | exact SubK.nil | apply sub_d rfl | apply sub_msl rfl | apply sub_mptr rfl | apply SubK.cons _ _ _ _ rfl)) (blk_nil rfl) ?_
  refine twp_cond false rfl (fun h => by cases h) (fun _ => ?_)
  refine twp_rseq ?_
  refine s_rd _ rfl (by first | exact rd_assertYes rfl conc76 rfl | exact rd_assertNo rfl conc76 rfl rfl zero76 rfl) ?_
  refine s_rd _ rfl (by first | exact extract_d rfl rfl rfl | exact extract_msl rfl rfl rfl | exact extract_any rfl rfl rfl) ?_
  refine s_eq 43 (.d (.bool false)) rfl rfl ?_
  refine s_rd _ rfl (by first | exact extract_d rfl rfl rfl | exact extract_msl rfl rfl rfl | exact extract_any rfl rfl rfl) ?_
  refine tops_nil ?_
  refine twp_norm [0, 1, 12, 43, 44] (by repeat (first | exact SubK.nil | apply sub_d rfl | apply sub_msl rfl | apply sub_mptr rfl | apply SubK.cons _ _ _ _ rfl)) (blk_nil rfl) ?_
  refine twp_cond false rfl (fun h => by cases h) (fun _ => ?_)
  refine twp_rseq ?_
  refine s_rd _ rfl (by first | exact rd_assertYes rfl conc77 rfl | exact rd_assertNo rfl conc77 rfl rfl zero77 rfl) ?_
  refine s_rd _ rfl (by first | exact extract_d rfl rfl rfl | exact extract_msl rfl rfl rfl | exact extract_any rfl rfl rfl) ?_
  refine s_eq 55 (.d (.bool true)) rfl rfl ?_
  refine s_rd _ rfl (by first | exact extract_d rfl rfl rfl | exact extract_msl rfl rfl rfl | exact extract_any rfl rfl rfl) ?_
  refine tops_nil ?_
  refine twp_norm [0, 1, 12, 55, 56] (by repeat (first | exact SubK.nil | apply sub_d rfl | apply sub_msl rfl | apply sub_mptr rfl | apply SubK.cons _ _ _ _ rfl)) (blk_nil rfl) ?_
  refine twp_cond true rfl (fun _ => ?_) (fun h => by cases h)
  refine twp_rseq ?_
  refine s_alloc rfl zero77 rfl rfl ?_
  refine s_eq 7 (.mptr 0 0 0 0) rfl rfl ?_
  refine s_store_box lay77 rfl rfl rfl rfl rfl (Nat.le_of_ble_eq_true rfl) rfl ?_
  refine tops_nil ?_
  refine twp_norm [1, 7] (sub_d rfl (sub_mptr rfl .nil)) (blk_boxN rfl (by repeat (first | exact NormC.nil rfl | apply nc_d rfl | apply nc_msl rfl | apply nc_mptr rfl | apply nc_fnc rfl)) (blk_nil rfl)) ?_
  refine twp_seq ?_
  refine twp_rseq ?_
  refine s_rd _ rfl (fieldAddr_mptr rfl fld77_0 rfl rfl) ?_
  refine s_rd _ rfl (by first | exact load_box_d rfl lay67 rfl rfl rfl | exact load_box rfl lay67 rfl rfl rfl) ?_
  refine s_rd _ rfl (by first | exact rd_nilCheck (.d _) rfl rfl rfl | exact rd_nilCheck (.mptr _ _ _ _) rfl rfl rfl | exact rd_nilCheck _ rfl rfl rfl) ?_
  refine s_rd _ rfl (by first | exact fieldAddr_ptr rfl fld47_2 rfl rfl | exact fieldAddr_mptr rfl fld47_2 rfl rfl) ?_
  refine s_rd _ rfl (by first | exact load_ptr rfl lay45 rfl rfl | exact load_flat rfl lay45 rfl rfl (by first | rfl | assumption | (simp only [List.getElem?_map, Option.map_some, *]; done)) rfl | exact load_box_d rfl lay45 rfl rfl rfl | exact load_box rfl lay45 rfl rfl rfl) ?_
  refine s_rd _ rfl (by first | exact len_d rfl sel45 rfl (by first | exact List.length_map _ | exact Ex.encs_length _ | rfl) | exact len_msl rfl sel45 rfl | exact len_nil rfl sel45 rfl) ?_
  refine s_rd _ rfl (mv_d (.inl rfl) rfl) ?_
  refine tops_nil ?_
  refine twp_norm [1, 7, 62, 63] (sub_d rfl (sub_mptr rfl (sub_d rfl (sub_d rfl .nil)))) (blk_box rfl (blk_nil rfl)) ?_
  refine twp_block ?_
  refine twp_whileK (fun i => ([(63, .d (.int .i64 ((i : Nat) : Int)))] : Fr)) (fun i => ([] : List (Nat × Blk))) (fun i => i ≤ e.args.length ∧ (allTo (Ex.eval · vs) e.args i)) (fun i => e.args.length - i) [63] [1, 7, 62] [0] 0 (by decide) (fun i hi => absurd hi (Nat.not_lt_zero i)) ⟨Nat.zero_le _, allTo_zero⟩ (sub_d rfl (sub_mptr rfl (sub_d rfl .nil))) rfl rfl (blk_box rfl (blk_nil rfl)) rfl ?_
  rintro i ⟨hok, hinv⟩
  refine twp_norm [63, 1, 7, 62] (sub_d rfl (sub_d rfl (sub_mptr rfl (sub_d rfl .nil)))) (blk_box rfl (blk_nil rfl)) ?_
  refine twp_rseq ?_
  refine s_rd _ rfl (cmp_int rfl rfl rfl rfl) ?_
  refine tops_nil ?_
  refine twp_norm [1, 7, 62, 63, 64] (sub_d rfl (sub_mptr rfl (sub_d rfl (sub_d rfl (sub_d rfl .nil))))) (blk_box rfl (blk_nil rfl)) ?_
  refine twp_seq ?_
  refine twp_cond _ rfl (fun hlt => ?_) (fun hlt => ?_)
  · have hlt : i < e.args.length := by simpa using hlt
    obtain ⟨a, ha⟩ : ∃ x, (e.args)[i]? = some x := ⟨_, List.getElem?_eq_getElem (by first | exact hlt | omega | (simp; omega))⟩
    refine twp_skip ?_
    refine way_then ?_
    refine twp_norm [1, 7, 62, 63] (sub_d rfl (sub_mptr rfl (sub_d rfl (sub_d rfl .nil)))) (blk_box rfl (blk_nil rfl)) ?_
    refine twp_seq ?_
    refine twp_block ?_
    refine twp_rseq ?_
    refine s_rd _ rfl (mv_d (.inl rfl) rfl) ?_
    refine s_rd _ rfl (mv_d (.inr rfl) rfl) ?_
    refine tops_nil ?_
    refine twp_norm [1, 7, 8, 62, 63] (sub_d rfl (sub_mptr rfl (sub_d rfl (sub_d rfl (sub_d rfl .nil))))) (blk_box rfl (blk_nil rfl)) ?_
    refine twp_rseq ?_
    refine s_rd _ rfl (fieldAddr_mptr rfl fld77_0 rfl rfl) ?_
    refine s_rd _ rfl (by first | exact load_box_d rfl lay67 rfl rfl rfl | exact load_box rfl lay67 rfl rfl rfl) ?_
    refine s_rd _ rfl (by first | exact rd_nilCheck (.d _) rfl rfl rfl | exact rd_nilCheck (.mptr _ _ _ _) rfl rfl rfl | exact rd_nilCheck _ rfl rfl rfl) ?_
    refine s_rd _ rfl (by first | exact fieldAddr_ptr rfl fld47_2 rfl rfl | exact fieldAddr_mptr rfl fld47_2 rfl rfl) ?_
    refine s_rd _ rfl (by first | exact load_ptr rfl lay45 rfl rfl | exact load_flat rfl lay45 rfl rfl (by first | rfl | assumption | (simp only [List.getElem?_map, Option.map_some, *]; done)) rfl | exact load_box_d rfl lay45 rfl rfl rfl | exact load_box rfl lay45 rfl rfl rfl) ?_
    refine s_rd _ rfl (mv_d (.inl rfl) rfl) ?_
    refine s_rd _ rfl (by first | exact index_msl0 rfl sel45 rfl rfl (by first | assumption | omega | (simp; omega)) | exact index_sl rfl sel45 rfl rfl (Ex.idx_encs ha)) ?_
    refine s_rd _ rfl (mv_d (.inl rfl) rfl) ?_
    refine s_rd _ rfl (rd_callRN rfl rfl (by repeat (first | exact snaps_nil | refine snaps_cons (.d _) ?_ | refine snaps_cons (snap_full rfl (by simp)) ?_ | refine snaps_cons (snap_full rfl rfl) ?_ | refine snaps_cons (snap_boxD rfl rfl) ?_ | refine snaps_cons (snap_agg (by repeat (first | exact SnapsO.nil | refine SnapsO.cons (Snap.d _) rfl ?_ | refine SnapsO.cons (snap_full rfl rfl) rfl ?_))) ?_)) (ih a (List.mem_of_getElem? ha) (hw.arg a (List.mem_of_getElem? ha)))) ?_
    refine s_rd _ rfl (not_b rfl rfl rfl) ?_
    refine tops_nil ?_
    refine twp_norm [1, 7, 62, 63, 75] (sub_d rfl (sub_mptr rfl (sub_d rfl (sub_d rfl (sub_d rfl .nil))))) (blk_box rfl (blk_nil rfl)) ?_
    refine twp_cond _ rfl (fun hfa => ?_) (fun hfa => ?_)
    · have hno : e.args.all (Ex.eval · vs) = false := allTo_no ha (by simpa using hfa)
      refine twp_rseq ?_
      refine s_rd _ rfl (mv_d (.inr rfl) rfl) ?_
      refine tops_nil ?_
      refine twp_norm [4] (sub_d rfl .nil) (blk_box rfl (blk_nil rfl)) ?_
      refine twp_ret ?_
      refine way_blockRet ?_
      refine way_thenRet ?_
      refine way_thenRet ?_
      refine way_blockRet ?_
      refine way_thenRet ?_
      refine way_blockRet ?_
      refine way_thenRet ?_
      exact Ends.plainB _ rfl (by rw [Ex.eval_eq e]; (try rw [hlk]); (try rw [hcons]); (first | rw [hno] | rw [hall] | skip); simp [*])
    · refine twp_skip ?_
      refine way_block ?_
      refine way_then ?_
      refine twp_norm [1, 7, 62, 63] (sub_d rfl (sub_mptr rfl (sub_d rfl (sub_d rfl .nil)))) (blk_box rfl (blk_nil rfl)) ?_
      refine twp_region ?_
      refine s_rd _ rfl (arith_ok rfl rfl rfl rfl (by omega)) ?_
      refine s_rd _ rfl (mv_d (.inl rfl) rfl) ?_
      refine tops_nil ?_
      refine way_then ?_
      exact ⟨(i + 1), [0], by decide, (fun i hi => absurd hi (Nat.not_lt_zero i)), ⟨by omega, allTo_succ hinv ha (by simpa using hfa)⟩, (by omega), rfl⟩
  · have hge : ¬ i < e.args.length := by simpa using hlt
    have hi : i = e.args.length := by omega
    have hall := allTo_end hinv hge
    refine twp_exit ?_
    refine way_thenExit ?_
    refine way_thenExit ?_
    refine way_here ?_
    refine way_then ?_
    refine twp_norm [] .nil (blk_box rfl (blk_nil rfl)) ?_
    refine twp_rseq ?_
    refine s_rd _ rfl (mv_d (.inr rfl) rfl) ?_
    refine tops_nil ?_
    refine twp_norm [4] (sub_d rfl .nil) (blk_box rfl (blk_nil rfl)) ?_
    refine twp_ret ?_
    refine way_blockRet ?_
    refine way_thenRet ?_
    exact Ends.plainB _ rfl (by rw [Ex.eval_eq e]; (try rw [hlk]); (try rw [hcons]); (first | rw [hno] | rw [hall] | skip); simp [*])

theorem lay78 : lay Try.prog 78 = some (true, 1) := by kernel_rfl

theorem fld78_0 : fld Try.prog 78 0 = some 0 := by kernel_rfl

theorem eval_78 (e : Ex) (vs : List Bool) (hv : vs.length ≤ 9223372036854775807) (ih : ∀ a ∈ e.args, a.Wf → RetN Try.prog 41 [.ptr a.enc 0, bools vs] (.bool (a.eval vs))) (hw : e.Wf) (ht : e.nodeT = 78) (ho : e.op = 6) : Ret Try.prog 41 [] (fun _ => false) ([D.ptr e.enc 0, bools vs].map .d) (.d (.bool (e.eval vs))) [] := by
  have hlen := hw.len
  refine ret_body callB41 Try.func41 rfl Try.ntmps41 rfl rfl (fun wX gX => ?_)
  refine twp_norm [0, 1] (sub_d rfl (sub_d rfl .nil)) (blk_nil rfl) ?_
  refine twp_rseq ?_
  refine s_rd _ rfl (mv_d (.inr rfl) rfl) ?_
  refine tops_nil ?_
  refine twp_norm [0, 1] (sub_d rfl (sub_d rfl .nil)) (blk_nil rfl) ?_
  refine twp_seq ?_
  refine twp_rseq ?_
  refine s_rd _ rfl (mv_d (.inl rfl) rfl) ?_
  refine s_rd _ rfl (rd_callRD rfl rfl rfl (node_d e 78 ht)) ?_
  refine tops_nil ?_
  refine twp_norm [0, 1, 12] (sub_d rfl (sub_d rfl (sub_d rfl .nil))) (blk_nil rfl) ?_
  refine twp_block ?_
  refine twp_rseq ?_
  refine s_rd _ rfl (by first | exact rd_assertYes rfl conc75 rfl | exact rd_assertNo rfl conc75 rfl rfl zero75 rfl) ?_
  refine s_rd _ rfl (by first | exact extract_d rfl rfl rfl | exact extract_msl rfl rfl rfl | exact extract_any rfl rfl rfl) ?_
  refine s_eq 14 (.d (.bool false)) rfl rfl ?_
  refine s_rd _ rfl (by first | exact extract_d rfl rfl rfl | exact extract_msl rfl rfl rfl | exact extract_any rfl rfl rfl) ?_
  refine tops_nil ?_
  refine twp_norm [0, 1, 12, 14, 15] (by repeat (first | exact SubK.nil | apply sub_d rfl | apply sub_msl rfl | apply sub_mptr rfl | apply SubK.cons _ _ _ _ rfl)) (blk_nil rfl) ?_
  refine twp_cond false rfl (fun h => by cases h) (fun _ => ?_)
  refine twp_rseq ?_
  refine s_rd _ rfl (by first | exact rd_assertYes rfl conc76 rfl | exact rd_assertNo rfl conc76 rfl rfl zero76 rfl) ?_
  refine s_rd _ rfl (by first | exact extract_d rfl rfl rfl | exact extract_msl rfl rfl rfl | exact extract_any rfl rfl rfl) ?_
  refine s_eq 43 (.d (.bool false)) rfl rfl ?_
  refine s_rd _ rfl (by first | exact extract_d rfl rfl rfl | exact extract_msl rfl rfl rfl | exact extract_any rfl rfl rfl) ?_
  refine tops_nil ?_
  refine twp_norm [0, 1, 12, 43, 44] (by repeat (first | exact SubK.nil | apply sub_d rfl | apply sub_msl rfl | apply sub_mptr rfl | apply SubK.cons _ _ _ _ rfl)) (blk_nil rfl) ?_
  refine twp_cond false rfl (fun h => by cases h) (fun _ => ?_)
  refine twp_rseq ?_
  refine s_rd _ rfl (by first | exact rd_assertYes rfl conc77 rfl | exact rd_assertNo rfl conc77 rfl rfl zero77 rfl) ?_
  refine s_rd _ rfl (by first | exact extract_d rfl rfl rfl | exact extract_msl rfl rfl rfl | exact extract_any rfl rfl rfl) ?_
  refine s_eq 55 (.d (.bool false)) rfl rfl ?_
  refine s_rd _ rfl (by first | exact extract_d rfl rfl rfl | exact extract_msl rfl rfl rfl | exact extract_any rfl rfl rfl) ?_
  refine tops_nil ?_
  refine twp_norm [0, 1, 12, 55, 56] (by repeat (first | exact SubK.nil | apply sub_d rfl | apply sub_msl rfl | apply sub_mptr rfl | apply SubK.cons _ _ _ _ rfl)) (blk_nil rfl) ?_
  refine twp_cond false rfl (fun h => by cases h) (fun _ => ?_)
  refine twp_rseq ?_
  refine s_rd _ rfl (by first | exact rd_assertYes rfl conc78 rfl | exact rd_assertNo rfl conc78 rfl rfl zero78 rfl) ?_
  refine s_rd _ rfl (by first | exact extract_d rfl rfl rfl | exact extract_msl rfl rfl rfl | exact extract_any rfl rfl rfl) ?_
  refine s_eq 78 (.d (.bool true)) rfl rfl ?_
  refine s_rd _ rfl (by first | exact extract_d rfl rfl rfl | exact extract_msl rfl rfl rfl | exact extract_any rfl rfl rfl) ?_
  refine tops_nil ?_
  refine twp_norm [0, 1, 78, 79] (by repeat (first | exact SubK.nil | apply sub_d rfl | apply sub_msl rfl | apply sub_mptr rfl | apply SubK.cons _ _ _ _ rfl)) (blk_nil rfl) ?_
  refine twp_cond true rfl (fun _ => ?_) (fun h => by cases h)
  refine twp_rseq ?_
  refine s_alloc rfl zero78 rfl rfl ?_
  refine s_eq 9 (.mptr 0 0 0 0) rfl rfl ?_
  refine s_store_box lay78 rfl rfl rfl rfl rfl (Nat.le_of_ble_eq_true rfl) rfl ?_
  refine tops_nil ?_
  refine twp_norm [1, 9] (sub_d rfl (sub_mptr rfl .nil)) (blk_boxN rfl (by repeat (first | exact NormC.nil rfl | apply nc_d rfl | apply nc_msl rfl | apply nc_mptr rfl | apply nc_fnc rfl)) (blk_nil rfl)) ?_
  refine twp_seq ?_
  refine twp_rseq ?_
  refine s_rd _ rfl (fieldAddr_mptr rfl fld78_0 rfl rfl) ?_
  refine s_rd _ rfl (by first | exact load_box_d rfl lay67 rfl rfl rfl | exact load_box rfl lay67 rfl rfl rfl) ?_
  refine s_rd _ rfl (by first | exact rd_nilCheck (.d _) rfl rfl rfl | exact rd_nilCheck (.mptr _ _ _ _) rfl rfl rfl | exact rd_nilCheck _ rfl rfl rfl) ?_
  refine s_rd _ rfl (by first | exact fieldAddr_ptr rfl fld47_2 rfl rfl | exact fieldAddr_mptr rfl fld47_2 rfl rfl) ?_
  refine s_rd _ rfl (by first | exact load_ptr rfl lay45 rfl rfl | exact load_flat rfl lay45 rfl rfl (by first | rfl | assumption | (simp only [List.getElem?_map, Option.map_some, *]; done)) rfl | exact load_box_d rfl lay45 rfl rfl rfl | exact load_box rfl lay45 rfl rfl rfl) ?_
  refine s_rd _ rfl (by first | exact len_d rfl sel45 rfl (by first | exact List.length_map _ | exact Ex.encs_length _ | rfl) | exact len_msl rfl sel45 rfl | exact len_nil rfl sel45 rfl) ?_
  refine s_rd _ rfl (mv_d (.inl rfl) rfl) ?_
  refine tops_nil ?_
  refine twp_norm [1, 9, 85, 86] (sub_d rfl (sub_mptr rfl (sub_d rfl (sub_d rfl .nil)))) (blk_box rfl (blk_nil rfl)) ?_
  refine twp_block ?_
  refine twp_whileK (fun i => ([(86, .d (.int .i64 ((i : Nat) : Int)))] : Fr)) (fun i => ([] : List (Nat × Blk))) (fun i => i ≤ e.args.length ∧ (anyTo (Ex.eval · vs) e.args i)) (fun i => e.args.length - i) [86] [1, 9, 85] [0] 0 (by decide) (fun i hi => absurd hi (Nat.not_lt_zero i)) ⟨Nat.zero_le _, anyTo_zero⟩ (sub_d rfl (sub_mptr rfl (sub_d rfl .nil))) rfl rfl (blk_box rfl (blk_nil rfl)) rfl ?_
  rintro i ⟨hok, hinv⟩
  refine twp_norm [86, 1, 9, 85] (sub_d rfl (sub_d rfl (sub_mptr rfl (sub_d rfl .nil)))) (blk_box rfl (blk_nil rfl)) ?_
  refine twp_rseq ?_
  refine s_rd _ rfl (cmp_int rfl rfl rfl rfl) ?_
  refine tops_nil ?_
  refine twp_norm [1, 9, 85, 86, 87] (sub_d rfl (sub_mptr rfl (sub_d rfl (sub_d rfl (sub_d rfl .nil))))) (blk_box rfl (blk_nil rfl)) ?_
  refine twp_seq ?_
  refine twp_cond _ rfl (fun hlt => ?_) (fun hlt => ?_)
  · have hlt : i < e.args.length := by simpa using hlt
    obtain ⟨a, ha⟩ : ∃ x, (e.args)[i]? = some x := ⟨_, List.getElem?_eq_getElem (by first | exact hlt | omega | (simp; omega))⟩
    refine twp_skip ?_
    refine way_then ?_
    refine twp_norm [1, 9, 85, 86] (sub_d rfl (sub_mptr rfl (sub_d rfl (sub_d rfl .nil)))) (blk_box rfl (blk_nil rfl)) ?_
    refine twp_seq ?_
    refine twp_block ?_
    refine twp_rseq ?_
    refine s_rd _ rfl (mv_d (.inl rfl) rfl) ?_
    refine s_rd _ rfl (mv_d (.inr rfl) rfl) ?_
    refine tops_nil ?_
    refine twp_norm [1, 9, 10, 85, 86] (sub_d rfl (sub_mptr rfl (sub_d rfl (sub_d rfl (sub_d rfl .nil))))) (blk_box rfl (blk_nil rfl)) ?_
    refine twp_rseq ?_
    refine s_rd _ rfl (fieldAddr_mptr rfl fld78_0 rfl rfl) ?_
    refine s_rd _ rfl (by first | exact load_box_d rfl lay67 rfl rfl rfl | exact load_box rfl lay67 rfl rfl rfl) ?_
    refine s_rd _ rfl (by first | exact rd_nilCheck (.d _) rfl rfl rfl | exact rd_nilCheck (.mptr _ _ _ _) rfl rfl rfl | exact rd_nilCheck _ rfl rfl rfl) ?_
    refine s_rd _ rfl (by first | exact fieldAddr_ptr rfl fld47_2 rfl rfl | exact fieldAddr_mptr rfl fld47_2 rfl rfl) ?_
    refine s_rd _ rfl (by first | exact load_ptr rfl lay45 rfl rfl | exact load_flat rfl lay45 rfl rfl (by first | rfl | assumption | (simp only [List.getElem?_map, Option.map_some, *]; done)) rfl | exact load_box_d rfl lay45 rfl rfl rfl | exact load_box rfl lay45 rfl rfl rfl) ?_
    refine s_rd _ rfl (mv_d (.inl rfl) rfl) ?_
    refine s_rd _ rfl (by first | exact index_msl0 rfl sel45 rfl rfl (by first | assumption | omega | (simp; omega)) | exact index_sl rfl sel45 rfl rfl (Ex.idx_encs ha)) ?_
    refine s_rd _ rfl (mv_d (.inl rfl) rfl) ?_
    refine s_rd _ rfl (rd_callRN rfl rfl (by repeat (first | exact snaps_nil | refine snaps_cons (.d _) ?_ | refine snaps_cons (snap_full rfl (by simp)) ?_ | refine snaps_cons (snap_full rfl rfl) ?_ | refine snaps_cons (snap_boxD rfl rfl) ?_ | refine snaps_cons (snap_agg (by repeat (first | exact SnapsO.nil | refine SnapsO.cons (Snap.d _) rfl ?_ | refine SnapsO.cons (snap_full rfl rfl) rfl ?_))) ?_)) (ih a (List.mem_of_getElem? ha) (hw.arg a (List.mem_of_getElem? ha)))) ?_
    refine tops_nil ?_
    refine twp_norm [1, 9, 85, 86, 97] (sub_d rfl (sub_mptr rfl (sub_d rfl (sub_d rfl (sub_d rfl .nil))))) (blk_box rfl (blk_nil rfl)) ?_
    refine twp_cond _ rfl (fun hfa => ?_) (fun hfa => ?_)
    · have hno : e.args.any (Ex.eval · vs) = true := anyTo_yes ha (by simpa using hfa)
      refine twp_rseq ?_
      refine s_rd _ rfl (mv_d (.inr rfl) rfl) ?_
      refine tops_nil ?_
      refine twp_norm [4] (sub_d rfl .nil) (blk_box rfl (blk_nil rfl)) ?_
      refine twp_ret ?_
      refine way_blockRet ?_
      refine way_thenRet ?_
      refine way_thenRet ?_
      refine way_blockRet ?_
      refine way_thenRet ?_
      refine way_blockRet ?_
      refine way_thenRet ?_
      exact Ends.plainB _ rfl (by rw [Ex.eval_eq e]; (try rw [hlk]); (try rw [hcons]); (first | rw [hno] | rw [hall] | skip); simp [*])
    · refine twp_skip ?_
      refine way_block ?_
      refine way_then ?_
      refine twp_norm [1, 9, 85, 86] (sub_d rfl (sub_mptr rfl (sub_d rfl (sub_d rfl .nil)))) (blk_box rfl (blk_nil rfl)) ?_
      refine twp_region ?_
      refine s_rd _ rfl (arith_ok rfl rfl rfl rfl (by omega)) ?_
      refine s_rd _ rfl (mv_d (.inl rfl) rfl) ?_
      refine tops_nil ?_
      refine way_then ?_
      exact ⟨(i + 1), [0], by decide, (fun i hi => absurd hi (Nat.not_lt_zero i)), ⟨by omega, anyTo_succ hinv ha (by simpa using hfa)⟩, (by omega), rfl⟩
  · have hge : ¬ i < e.args.length := by simpa using hlt
    have hi : i = e.args.length := by omega
    have hall := anyTo_end hinv hge
    refine twp_exit ?_
    refine way_thenExit ?_
    refine way_thenExit ?_
    refine way_here ?_
    refine way_then ?_
    refine twp_norm [] .nil (blk_box rfl (blk_nil rfl)) ?_
    refine twp_rseq ?_
    refine s_rd _ rfl (mv_d (.inr rfl) rfl) ?_
    refine tops_nil ?_
    refine twp_norm [4] (sub_d rfl .nil) (blk_box rfl (blk_nil rfl)) ?_
    refine twp_ret ?_
    refine way_blockRet ?_
    refine way_thenRet ?_
    exact Ends.plainB _ rfl (by rw [Ex.eval_eq e]; (try rw [hlk]); (try rw [hcons]); (first | rw [hno] | rw [hall] | skip); simp [*])

theorem eval_79 (e : Ex) (vs : List Bool) (hv : vs.length ≤ 9223372036854775807) (ih : ∀ a ∈ e.args, a.Wf → RetN Try.prog 41 [.ptr a.enc 0, bools vs] (.bool (a.eval vs))) (hw : e.Wf) (ht : e.nodeT = 79) (ho : ¬ e.op = 3 ∧ (e.op = 4 → e.args = []) ∧ ¬ e.op = 5 ∧ ¬ e.op = 6) : Ret Try.prog 41 [] (fun _ => false) ([D.ptr e.enc 0, bools vs].map .d) (.d (.bool (e.eval vs))) [] := by
  have hlen := hw.len
  refine ret_body callB41 Try.func41 rfl Try.ntmps41 rfl rfl (fun wX gX => ?_)
  refine twp_norm [0, 1] (sub_d rfl (sub_d rfl .nil)) (blk_nil rfl) ?_
  refine twp_rseq ?_
  refine s_rd _ rfl (mv_d (.inr rfl) rfl) ?_
  refine tops_nil ?_
  refine twp_norm [0, 1] (sub_d rfl (sub_d rfl .nil)) (blk_nil rfl) ?_
  refine twp_seq ?_
  refine twp_rseq ?_
  refine s_rd _ rfl (mv_d (.inl rfl) rfl) ?_
  refine s_rd _ rfl (rd_callRD rfl rfl rfl (node_d e 79 ht)) ?_
  refine tops_nil ?_
  refine twp_norm [0, 1, 12] (sub_d rfl (sub_d rfl (sub_d rfl .nil))) (blk_nil rfl) ?_
  refine twp_block ?_
  refine twp_rseq ?_
  refine s_rd _ rfl (by first | exact rd_assertYes rfl conc75 rfl | exact rd_assertNo rfl conc75 rfl rfl zero75 rfl) ?_
  refine s_rd _ rfl (by first | exact extract_d rfl rfl rfl | exact extract_msl rfl rfl rfl | exact extract_any rfl rfl rfl) ?_
  refine s_eq 14 (.d (.bool false)) rfl rfl ?_
  refine s_rd _ rfl (by first | exact extract_d rfl rfl rfl | exact extract_msl rfl rfl rfl | exact extract_any rfl rfl rfl) ?_
  refine tops_nil ?_
  refine twp_norm [0, 1, 12, 14, 15] (by repeat (first | exact SubK.nil | apply sub_d rfl | apply sub_msl rfl | apply sub_mptr rfl | apply SubK.cons _ _ _ _ rfl)) (blk_nil rfl) ?_
  refine twp_cond false rfl (fun h => by cases h) (fun _ => ?_)
  refine twp_rseq ?_
  refine s_rd _ rfl (by first | exact rd_assertYes rfl conc76 rfl | exact rd_assertNo rfl conc76 rfl rfl zero76 rfl) ?_
  refine s_rd _ rfl (by first | exact extract_d rfl rfl rfl | exact extract_msl rfl rfl rfl | exact extract_any rfl rfl rfl) ?_
  refine s_eq 43 (.d (.bool false)) rfl rfl ?_
  refine s_rd _ rfl (by first | exact extract_d rfl rfl rfl | exact extract_msl rfl rfl rfl | exact extract_any rfl rfl rfl) ?_
  refine tops_nil ?_
  refine twp_norm [0, 1, 12, 43, 44] (by repeat (first | exact SubK.nil | apply sub_d rfl | apply sub_msl rfl | apply sub_mptr rfl | apply SubK.cons _ _ _ _ rfl)) (blk_nil rfl) ?_
  refine twp_cond false rfl (fun h => by cases h) (fun _ => ?_)
  refine twp_rseq ?_
  refine s_rd _ rfl (by first | exact rd_assertYes rfl conc77 rfl | exact rd_assertNo rfl conc77 rfl rfl zero77 rfl) ?_
  refine s_rd _ rfl (by first | exact extract_d rfl rfl rfl | exact extract_msl rfl rfl rfl | exact extract_any rfl rfl rfl) ?_
  refine s_eq 55 (.d (.bool false)) rfl rfl ?_
  refine s_rd _ rfl (by first | exact extract_d rfl rfl rfl | exact extract_msl rfl rfl rfl | exact extract_any rfl rfl rfl) ?_
  refine tops_nil ?_
  refine twp_norm [0, 1, 12, 55, 56] (by repeat (first | exact SubK.nil | apply sub_d rfl | apply sub_msl rfl | apply sub_mptr rfl | apply SubK.cons _ _ _ _ rfl)) (blk_nil rfl) ?_
  refine twp_cond false rfl (fun h => by cases h) (fun _ => ?_)
  refine twp_rseq ?_
  refine s_rd _ rfl (by first | exact rd_assertYes rfl conc78 rfl | exact rd_assertNo rfl conc78 rfl rfl zero78 rfl) ?_
  refine s_rd _ rfl (by first | exact extract_d rfl rfl rfl | exact extract_msl rfl rfl rfl | exact extract_any rfl rfl rfl) ?_
  refine s_eq 78 (.d (.bool false)) rfl rfl ?_
  refine s_rd _ rfl (by first | exact extract_d rfl rfl rfl | exact extract_msl rfl rfl rfl | exact extract_any rfl rfl rfl) ?_
  refine tops_nil ?_
  refine twp_norm [0, 1, 78, 79] (by repeat (first | exact SubK.nil | apply sub_d rfl | apply sub_msl rfl | apply sub_mptr rfl | apply SubK.cons _ _ _ _ rfl)) (blk_nil rfl) ?_
  refine twp_cond false rfl (fun h => by cases h) (fun _ => ?_)
  refine twp_skip ?_
  refine way_block ?_
  refine way_then ?_
  refine twp_norm [0] (sub_d rfl .nil) (blk_nil rfl) ?_
  refine twp_rseq ?_
  obtain ⟨o1, o2, o3, o4⟩ := ho
  refine s_rd _ rfl (mv_d (.inl rfl) rfl) ?_
  refine s_rd _ rfl (rd_nilCheck (.d _) rfl rfl rfl) ?_
  refine s_rd _ rfl (fieldAddr_ptr rfl fld47_0 rfl rfl) ?_
  refine s_rd _ rfl (load_ptr rfl lay3 rfl rfl) ?_
  refine s_rd _ rfl (cmp_int rfl rfl rfl rfl) ?_
  refine s_rd _ rfl (mv_d (.inr rfl) rfl) ?_
  refine tops_nil ?_
  refine twp_norm [4] (sub_d rfl .nil) (blk_nil rfl) ?_
  refine twp_ret ?_
  exact Ends.plainB _ rfl (by rw [Ex.eval_eq e, if_neg o1, if_neg o3, if_neg o4]; rcases Classical.em (e.op = 4) with h4 | h4 <;> rcases Classical.em (e.op = 2) with h2 | h2 <;> simp_all)

theorem eval_n (vs : List Bool) (hv : vs.length ≤ 9223372036854775807) : ∀ e : Ex, e.Wf → RetN Try.prog 41 [.ptr e.enc 0, bools vs] (.bool (e.eval vs)) := Ex.ind fun e ih hw => by
  refine .unit ?_ rfl
  by_cases h3 : e.op = 3
  · exact eval_75 e vs hv ih hw (by simp [Ex.nodeT, h3]) h3
  · by_cases h4 : e.op = 4 ∧ 0 < e.args.length
    · exact eval_76 e vs hv ih hw (by simp [Ex.nodeT, h4]) ⟨h4.1, List.exists_cons_of_length_pos h4.2⟩
    · by_cases h5 : e.op = 5
      · exact eval_77 e vs hv ih hw (by simp [Ex.nodeT, h5]) h5
      · by_cases h6 : e.op = 6
        · exact eval_78 e vs hv ih hw (by simp [Ex.nodeT, h6]) h6
        · exact eval_79 e vs hv ih hw (by simp only [Ex.nodeT]; rw [if_neg h3, if_neg h4, if_neg h5, if_neg h6]) ⟨h3, fun h => by have : ¬ 0 < e.args.length := fun hp => h4 ⟨h, hp⟩; exact List.length_eq_zero_iff.1 (by omega), h5, h6⟩

theorem callB35 : callB Try.prog 35 = true := by kernel_rfl

theorem evalP_step (e : Ex) (vs : List Bool) (hv : vs.length ≤ 9223372036854775807) (hw : e.Wf) : Ret Try.prog 35 [] (fun _ => false) ([e.enc, bools vs].map .d) (.d (.bool (e.eval vs))) [] := by
  refine ret_body callB35 Try.func35 rfl Try.ntmps35 rfl rfl (fun wX gX => ?_)
  refine twp_norm [0, 1] (sub_d rfl (sub_d rfl .nil)) (blk_nil rfl) ?_
  refine twp_rseq ?_
  refine s_boxA rfl rfl rfl ?_
  refine s_eq 2 (.mptr 0 0 0 0) rfl rfl ?_
  refine s_rd _ rfl (mv_d (.inr rfl) rfl) ?_
  refine tops_nil ?_
  refine twp_norm [1, 2] (sub_d rfl (sub_mptr rfl .nil)) (blk_boxN rfl (by repeat (first | exact NormC.nil rfl | apply nc_d rfl | apply nc_msl rfl | apply nc_mptr rfl | apply nc_fnc rfl)) (blk_nil rfl)) ?_
  refine twp_rseq ?_
  refine s_rd _ rfl (mv_d (.inl rfl) rfl) ?_
  refine s_rd _ rfl (rd_callRN rfl rfl (by repeat (first | exact snaps_nil | refine snaps_cons (.d _) ?_ | refine snaps_cons (snap_full rfl (by simp)) ?_ | refine snaps_cons (snap_full rfl rfl) ?_ | refine snaps_cons (snap_boxD rfl rfl) ?_ | refine snaps_cons (snap_agg (by repeat (first | exact SnapsO.nil | refine SnapsO.cons (Snap.d _) rfl ?_ | refine SnapsO.cons (snap_full rfl rfl) rfl ?_))) ?_)) (eval_n vs hv e hw)) ?_
  refine s_rd _ rfl (mv_d (.inr rfl) rfl) ?_
  refine tops_nil ?_
  refine twp_norm [4] (sub_d rfl .nil) (blk_box rfl (blk_nil rfl)) ?_
  refine twp_ret ?_
  exact Ends.plain _ rfl

theorem evalP_n (e : Ex) (vs : List Bool) (hv : vs.length ≤ 9223372036854775807) (hw : e.Wf) : RetN Try.prog 35 [e.enc, bools vs] (.bool (e.eval vs)) := .unit (evalP_step e vs hv hw) rfl

theorem callB38 : callB Try.prog 38 = true := by kernel_rfl

theorem validR_step (e : Ex) (n : Int) (hs : e.size ≤ 1000000) (hw : e.Wf) : Ret Try.prog 38 [] (fun _ => false) ([e.enc, .int .i64 n].map .d) (.d (.bool (e.valid n))) [] := by
  refine ret_body callB38 Try.func38 rfl Try.ntmps38 rfl rfl (fun wX gX => ?_)
  refine twp_norm [0, 1] (sub_d rfl (sub_d rfl .nil)) (blk_nil rfl) ?_
  refine twp_rseq ?_
  refine s_boxA rfl rfl rfl ?_
  refine s_eq 2 (.mptr 0 0 0 0) rfl rfl ?_
  refine s_rd _ rfl (mv_d (.inr rfl) rfl) ?_
  refine tops_nil ?_
  refine twp_norm [1, 2] (sub_d rfl (sub_mptr rfl .nil)) (blk_boxN rfl (by repeat (first | exact NormC.nil rfl | apply nc_d rfl | apply nc_msl rfl | apply nc_mptr rfl | apply nc_fnc rfl)) (blk_nil rfl)) ?_
  refine twp_rseq ?_
  refine s_rd _ rfl (by first | exact load_boxA_d rfl lay47 rfl rfl (Nat.le_of_ble_eq_true rfl) rfl | exact load_boxA rfl lay47 rfl rfl (Nat.le_of_ble_eq_true rfl) rfl) ?_
  refine s_rd _ rfl (rd_callRN rfl rfl (by repeat (first | exact snaps_nil | refine snaps_cons (.d _) ?_ | refine snaps_cons (snap_full rfl (by simp)) ?_ | refine snaps_cons (snap_full rfl rfl) ?_ | refine snaps_cons (snap_boxD rfl rfl) ?_ | refine snaps_cons (snap_agg (by repeat (first | exact SnapsO.nil | refine SnapsO.cons (Snap.d _) rfl ?_ | refine SnapsO.cons (snap_full rfl rfl) rfl ?_))) ?_)) (size_n e hs)) ?_
  refine s_rd _ rfl (cmp_int rfl rfl rfl rfl) ?_
  refine s_rd _ rfl (mv_d (.inl rfl) rfl) ?_
  refine s_split 8 rfl (fun a1 => ?_) (fun a1 => ?_)
  · have a1 : e.size ≤ 20000 := by have := of_decide_eq_true a1; omega
    refine s_yes rfl rfl rfl ?_
    refine s_rd _ rfl (by first | exact load_boxA_d rfl lay47 rfl rfl (Nat.le_of_ble_eq_true rfl) rfl | exact load_boxA rfl lay47 rfl rfl (Nat.le_of_ble_eq_true rfl) rfl) ?_
    refine s_yes rfl rfl rfl ?_
    refine s_rd _ rfl (rd_callRN rfl rfl (by repeat (first | exact snaps_nil | refine snaps_cons (.d _) ?_ | refine snaps_cons (snap_full rfl (by simp)) ?_ | refine snaps_cons (snap_full rfl rfl) ?_ | refine snaps_cons (snap_boxD rfl rfl) ?_ | refine snaps_cons (snap_agg (by repeat (first | exact SnapsO.nil | refine SnapsO.cons (Snap.d _) rfl ?_ | refine SnapsO.cons (snap_full rfl rfl) rfl ?_))) ?_)) (depth_n e hs)) ?_
    refine s_yes rfl rfl rfl ?_
    refine s_rd _ rfl (cmp_int rfl rfl rfl rfl) ?_
    refine s_rd _ rfl (by first | exact pick_Td rfl rfl rfl | exact pick_T rfl rfl rfl) ?_
    refine s_rd _ rfl (mv_d (.inl rfl) rfl) ?_
    refine s_split 13 rfl (fun a2 => ?_) (fun a2 => ?_)
    · have a2 : e.depth ≤ 12 := by have := of_decide_eq_true a2; omega
      refine s_yes rfl rfl rfl ?_
      refine s_rd _ rfl (by first | exact load_boxA_d rfl lay47 rfl rfl (Nat.le_of_ble_eq_true rfl) rfl | exact load_boxA rfl lay47 rfl rfl (Nat.le_of_ble_eq_true rfl) rfl) ?_
      refine s_yes rfl rfl rfl ?_
      refine s_rd _ rfl (mv_d (.inl rfl) rfl) ?_
      refine s_yes rfl rfl rfl ?_
      refine s_rd _ rfl (rd_callRN rfl rfl (by repeat (first | exact snaps_nil | refine snaps_cons (.d _) ?_ | refine snaps_cons (snap_full rfl (by simp)) ?_ | refine snaps_cons (snap_full rfl rfl) ?_ | refine snaps_cons (snap_boxD rfl rfl) ?_ | refine snaps_cons (snap_agg (by repeat (first | exact SnapsO.nil | refine SnapsO.cons (Snap.d _) rfl ?_ | refine SnapsO.cons (snap_full rfl rfl) rfl ?_))) ?_)) (form_n n e hw)) ?_
      refine s_rd _ rfl (by first | exact pick_Td rfl rfl rfl | exact pick_T rfl rfl rfl) ?_
      refine s_rd _ rfl (mv_d (.inr rfl) rfl) ?_
      refine tops_nil ?_
      refine twp_norm [4] (sub_d rfl .nil) (blk_box rfl (blk_nil rfl)) ?_
      refine twp_ret ?_
      exact Ends.plainB _ rfl (by unfold Ex.valid; simp [a1]; try simp [a2])
    · have a2 : ¬ e.depth ≤ 12 := by have := of_decide_eq_false a2; omega
      refine s_no rfl rfl rfl rfl ?_
      refine s_no rfl rfl rfl rfl ?_
      refine s_no rfl rfl rfl rfl ?_
      refine s_rd _ rfl (by first | exact pick_Fd rfl rfl rfl | exact pick_F rfl rfl rfl) ?_
      refine s_rd _ rfl (mv_d (.inr rfl) rfl) ?_
      refine tops_nil ?_
      refine twp_norm [4] (sub_d rfl .nil) (blk_box rfl (blk_nil rfl)) ?_
      refine twp_ret ?_
      exact Ends.plainB _ rfl (by unfold Ex.valid; simp [a1]; try simp [a2])
  · have a1 : ¬ e.size ≤ 20000 := by have := of_decide_eq_false a1; omega
    refine s_no rfl rfl rfl rfl ?_
    refine s_no rfl rfl rfl rfl ?_
    refine s_no rfl rfl rfl rfl ?_
    refine s_rd _ rfl (by first | exact pick_Fd rfl rfl rfl | exact pick_F rfl rfl rfl) ?_
    refine s_rd _ rfl (mv_d (.inl rfl) rfl) ?_
    refine s_no rfl rfl rfl rfl ?_
    refine s_no rfl rfl rfl rfl ?_
    refine s_no rfl rfl rfl rfl ?_
    refine s_rd _ rfl (by first | exact pick_Fd rfl rfl rfl | exact pick_F rfl rfl rfl) ?_
    refine s_rd _ rfl (mv_d (.inr rfl) rfl) ?_
    refine tops_nil ?_
    refine twp_norm [4] (sub_d rfl .nil) (blk_box rfl (blk_nil rfl)) ?_
    refine twp_ret ?_
    exact Ends.plainB _ rfl (by unfold Ex.valid; simp [a1]; try simp [a2])

theorem validR_n (e : Ex) (n : Int) (hs : e.size ≤ 1000000) (hw : e.Wf) : RetN Try.prog 38 [e.enc, .int .i64 n] (.bool (e.valid n)) := .unit (validR_step e n hs hw) rfl

end Go.Proofs.Yteedddlipoonoaa
