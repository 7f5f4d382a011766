/- Expressions and rungs: what may stand in a program, walked. No condition. -/
import Derived.Test.YteedddlipoonoaaPlcC
import Derived.KernelRfl
set_option linter.unusedSimpArgs false
set_option linter.unusedVariables false
namespace Go.Proofs.Yteedddlipoonoaa
open Go Go.TL

theorem callB42 : callB Try.prog 42 = true := by kernel_rfl

theorem vl_step (e : Ex) (n d l : Int) (hd0 : 1 ≤ d) (hd : d ≤ 13) (hl0 : 0 ≤ l) (hl : l ≤ 20000) (hw : e.Wf) (ih : ∀ a ∈ e.args, ∀ d l : Int, 1 ≤ d → d ≤ 13 → 0 ≤ l → l ≤ 20000 → a.Wf → Ret Try.prog 42 [.box 3 [.d (.int .i64 l)]] (fun _ => false) [.d (.ptr a.enc 0), .d (.int .i64 n), .d (.int .i64 d), .mptr 0 0 0 0] (.d (.bool (a.vl n d l).1)) [.box 3 [.d (.int .i64 (a.vl n d l).2)]]) :
    Ret Try.prog 42 [.box 3 [.d (.int .i64 l)]] (fun _ => false) [.d (.ptr e.enc 0), .d (.int .i64 n), .d (.int .i64 d), .mptr 0 0 0 0] (.d (.bool (e.vl n d l).1)) [.box 3 [.d (.int .i64 (e.vl n d l).2)]] := by
  have hlen := hw.len
  refine ret_body callB42 Try.func42 rfl Try.ntmps42 rfl rfl (fun wX gX => ?_)
  refine twp_norm [0, 1, 2, 3] (by repeat (first | exact SubK.nil | apply sub_d rfl | apply sub_msl rfl | apply sub_mptr rfl | apply SubK.cons _ _ _ _ rfl)) (by repeat (first | exact blk_nil rfl | apply blk_flat rfl | apply blk_boxN rfl | apply blk_map rfl | apply blk_dead rfl | apply blk_hole rfl | exact NormC.nil rfl | apply nc_d rfl | apply nc_msl rfl | apply nc_mptr rfl | apply nc_fnc rfl | apply nc_mmap rfl | apply nc_ifc rfl | rfl)) ?_
  refine twp_rseq ?_
  refine s_rd _ rfl (mv_d (.inr rfl) rfl) ?_
  refine tops_nil ?_
  refine twp_norm [0, 1, 2, 3] (by repeat (first | exact SubK.nil | apply sub_d rfl | apply sub_msl rfl | apply sub_mptr rfl | apply SubK.cons _ _ _ _ rfl)) (by repeat (first | exact blk_nil rfl | apply blk_flat rfl | apply blk_boxN rfl | apply blk_map rfl | apply blk_dead rfl | apply blk_hole rfl | exact NormC.nil rfl | apply nc_d rfl | apply nc_msl rfl | apply nc_mptr rfl | apply nc_fnc rfl | apply nc_mmap rfl | apply nc_ifc rfl | rfl)) ?_
  refine twp_seq ?_
  refine twp_rseq ?_
  refine s_rd _ rfl (by first | exact mv_d (.inl rfl) rfl | exact mv_msl (.inl rfl) rfl | exact mv_mptr (.inl rfl) rfl | exact rd_move (.inl rfl)) ?_
  refine s_rd _ rfl (cmp_int rfl rfl rfl rfl) ?_
  refine s_rd _ rfl (mv_d (.inl rfl) rfl) ?_
  refine s_split 12 rfl (fun h0 => ?_) (fun h0 => ?_)
  · refine s_no rfl rfl rfl rfl ?_
    refine s_no rfl rfl rfl rfl ?_
    refine s_no rfl rfl rfl rfl ?_
    refine s_no rfl rfl rfl rfl ?_
    refine s_rd _ rfl (by first | exact pick_Td rfl rfl rfl | exact pick_T rfl rfl rfl) ?_
    refine tops_nil ?_
    refine twp_norm [0, 1, 2, 3, 17] (by repeat (first | exact SubK.nil | apply sub_d rfl | apply sub_msl rfl | apply sub_mptr rfl | apply SubK.cons _ _ _ _ rfl)) (by repeat (first | exact blk_nil rfl | apply blk_flat rfl | apply blk_boxN rfl | apply blk_map rfl | apply blk_dead rfl | apply blk_hole rfl | exact NormC.nil rfl | apply nc_d rfl | apply nc_msl rfl | apply nc_mptr rfl | apply nc_fnc rfl | apply nc_mmap rfl | apply nc_ifc rfl | rfl)) ?_
    refine twp_cond true rfl (fun _ => ?_) (fun h => by cases h)
    refine twp_rseq ?_
    refine s_rd _ rfl (mv_d (.inr rfl) rfl) ?_
    refine tops_nil ?_
    refine twp_norm [8] (sub_d rfl .nil) (by repeat (first | exact blk_nil rfl | apply blk_flat rfl | apply blk_boxN rfl | apply blk_map rfl | apply blk_dead rfl | apply blk_hole rfl | exact NormC.nil rfl | apply nc_d rfl | apply nc_msl rfl | apply nc_mptr rfl | apply nc_fnc rfl | apply nc_mmap rfl | apply nc_ifc rfl | rfl)) ?_
    refine twp_ret ?_
    refine way_thenRet ?_
    first
      | (have hfin2 := hfin; exact ⟨_, [0], res rfl, by decide, (fun i hi => by have e : i = 0 := Nat.lt_one_iff.1 hi; subst e; rfl), by rw [hfin]; rfl, by rw [hfin]; rfl⟩)
      | (have hinv2 := hinv; have hfa2 := hfa; exact ⟨_, [0], res rfl, by decide, (fun i hi => by have e : i = 0 := Nat.lt_one_iff.1 hi; subst e; rfl), by rw [← hinv]; rfl, by rw [← hinv]; rfl⟩)
      | (have hv := Ex.vl_eq e n d l; exact ⟨_, [0], res rfl, by decide, (fun i hi => by have e : i = 0 := Nat.lt_one_iff.1 hi; subst e; rfl), av_bool (by grind), by exact congrArg (fun n => [Blk.box 3 [AV.d (.int .i64 n)]]) (show _ = (e.vl n d l).2 by grind)⟩)
  · refine s_yes rfl rfl rfl ?_
    refine s_rd _ rfl (by first | exact mv_d (.inl rfl) rfl | exact mv_msl (.inl rfl) rfl | exact mv_mptr (.inl rfl) rfl | exact rd_move (.inl rfl)) ?_
    refine s_yes rfl rfl rfl ?_
    refine s_rd _ rfl (by first | exact rd_nilCheck (.d _) rfl rfl rfl | exact rd_nilCheck (.mptr _ _ _ _) rfl rfl rfl | exact rd_nilCheck _ rfl rfl rfl) ?_
    refine s_yes rfl rfl rfl ?_
    refine s_rd _ rfl (by first | exact load_ptr rfl lay3 rfl rfl | exact load_flat rfl lay3 rfl rfl (by first | rfl | assumption | (simp only [List.getElem?_map, Option.map_some, *]; done)) rfl | exact load_box_d rfl lay3 rfl rfl rfl | exact load_box rfl lay3 rfl rfl rfl) ?_
    refine s_yes rfl rfl rfl ?_
    refine s_rd _ rfl (cmp_int rfl rfl rfl rfl) ?_
    refine s_rd _ rfl (by first | exact pick_Fd rfl rfl rfl | exact pick_F rfl rfl rfl) ?_
    refine tops_nil ?_
    refine twp_norm [0, 1, 2, 3, 17] (by repeat (first | exact SubK.nil | apply sub_d rfl | apply sub_msl rfl | apply sub_mptr rfl | apply SubK.cons _ _ _ _ rfl)) (by repeat (first | exact blk_nil rfl | apply blk_flat rfl | apply blk_boxN rfl | apply blk_map rfl | apply blk_dead rfl | apply blk_hole rfl | exact NormC.nil rfl | apply nc_d rfl | apply nc_msl rfl | apply nc_mptr rfl | apply nc_fnc rfl | apply nc_mmap rfl | apply nc_ifc rfl | rfl)) ?_
    refine twp_cond _ rfl (fun h2 => ?_) (fun h2 => ?_)
    · refine twp_rseq ?_
      refine s_rd _ rfl (mv_d (.inr rfl) rfl) ?_
      refine tops_nil ?_
      refine twp_norm [8] (sub_d rfl .nil) (by repeat (first | exact blk_nil rfl | apply blk_flat rfl | apply blk_boxN rfl | apply blk_map rfl | apply blk_dead rfl | apply blk_hole rfl | exact NormC.nil rfl | apply nc_d rfl | apply nc_msl rfl | apply nc_mptr rfl | apply nc_fnc rfl | apply nc_mmap rfl | apply nc_ifc rfl | rfl)) ?_
      refine twp_ret ?_
      refine way_thenRet ?_
      first
        | (have hfin2 := hfin; exact ⟨_, [0], res rfl, by decide, (fun i hi => by have e : i = 0 := Nat.lt_one_iff.1 hi; subst e; rfl), by rw [hfin]; rfl, by rw [hfin]; rfl⟩)
        | (have hinv2 := hinv; have hfa2 := hfa; exact ⟨_, [0], res rfl, by decide, (fun i hi => by have e : i = 0 := Nat.lt_one_iff.1 hi; subst e; rfl), by rw [← hinv]; rfl, by rw [← hinv]; rfl⟩)
        | (have hv := Ex.vl_eq e n d l; exact ⟨_, [0], res rfl, by decide, (fun i hi => by have e : i = 0 := Nat.lt_one_iff.1 hi; subst e; rfl), av_bool (by grind), by exact congrArg (fun n => [Blk.box 3 [AV.d (.int .i64 n)]]) (show _ = (e.vl n d l).2 by grind)⟩)
    · refine twp_skip ?_
      refine way_then ?_
      refine twp_norm [0, 1, 2, 3] (by repeat (first | exact SubK.nil | apply sub_d rfl | apply sub_msl rfl | apply sub_mptr rfl | apply SubK.cons _ _ _ _ rfl)) (by repeat (first | exact blk_nil rfl | apply blk_flat rfl | apply blk_boxN rfl | apply blk_map rfl | apply blk_dead rfl | apply blk_hole rfl | exact NormC.nil rfl | apply nc_d rfl | apply nc_msl rfl | apply nc_mptr rfl | apply nc_fnc rfl | apply nc_mmap rfl | apply nc_ifc rfl | rfl)) ?_
      refine twp_rseq ?_
      refine s_rd _ rfl (by first | exact mv_d (.inl rfl) rfl | exact mv_msl (.inl rfl) rfl | exact mv_mptr (.inl rfl) rfl | exact rd_move (.inl rfl)) ?_
      refine s_rd _ rfl (by first | exact rd_nilCheck (.d _) rfl rfl rfl | exact rd_nilCheck (.mptr _ _ _ _) rfl rfl rfl | exact rd_nilCheck _ rfl rfl rfl) ?_
      refine s_rd _ rfl (by first | exact load_ptr rfl lay3 rfl rfl | exact load_flat rfl lay3 rfl rfl (by first | rfl | assumption | (simp only [List.getElem?_map, Option.map_some, *]; done)) rfl | exact load_box_d rfl lay3 rfl rfl rfl | exact load_box rfl lay3 rfl rfl rfl) ?_
      refine s_rd _ rfl (arith_ok rfl rfl rfl rfl (by grind)) ?_
      refine s_rd _ rfl (by first | exact rd_nilCheck (.d _) rfl rfl rfl | exact rd_nilCheck (.mptr _ _ _ _) rfl rfl rfl | exact rd_nilCheck _ rfl rfl rfl) ?_
      first
        | refine s_store_box lay3 rfl rfl rfl rfl rfl (Nat.le_of_ble_eq_true rfl) rfl ?_
        | refine s_store_flat lay3 rfl rfl rfl rfl (by first | rfl | assumption | (simp only [List.getElem?_map, Option.map_some, *]; done)) (by first | exact .inl rfl | exact .inr rfl) (Nat.le_of_ble_eq_true rfl) rfl ?_
      refine tops_nil ?_
      refine twp_norm [0, 1, 2, 3] (by repeat (first | exact SubK.nil | apply sub_d rfl | apply sub_msl rfl | apply sub_mptr rfl | apply SubK.cons _ _ _ _ rfl)) (by repeat (first | exact blk_nil rfl | apply blk_flat rfl | apply blk_boxN rfl | apply blk_map rfl | apply blk_dead rfl | apply blk_hole rfl | exact NormC.nil rfl | apply nc_d rfl | apply nc_msl rfl | apply nc_mptr rfl | apply nc_fnc rfl | apply nc_mmap rfl | apply nc_ifc rfl | rfl)) ?_
      refine twp_seq ?_
      refine twp_rseq ?_
      refine s_rd _ rfl (by first | exact mv_d (.inl rfl) rfl | exact mv_msl (.inl rfl) rfl | exact mv_mptr (.inl rfl) rfl | exact rd_move (.inl rfl)) ?_
      refine s_rd _ rfl (by first | exact rd_nilCheck (.d _) rfl rfl rfl | exact rd_nilCheck (.mptr _ _ _ _) rfl rfl rfl | exact rd_nilCheck _ rfl rfl rfl) ?_
      refine s_rd _ rfl (by first | exact fieldAddr_ptr rfl fld47_0 rfl rfl | exact fieldAddr_mptr rfl fld47_0 rfl rfl) ?_
      refine s_rd _ rfl (by first | exact load_ptr rfl lay3 rfl rfl | exact load_flat rfl lay3 rfl rfl (by first | rfl | assumption | (simp only [List.getElem?_map, Option.map_some, *]; done)) rfl | exact load_box_d rfl lay3 rfl rfl rfl | exact load_box rfl lay3 rfl rfl rfl) ?_
      refine tops_nil ?_
      refine twp_norm [0, 1, 2, 3, 26] (by repeat (first | exact SubK.nil | apply sub_d rfl | apply sub_msl rfl | apply sub_mptr rfl | apply SubK.cons _ _ _ _ rfl)) (by repeat (first | exact blk_nil rfl | apply blk_flat rfl | apply blk_boxN rfl | apply blk_map rfl | apply blk_dead rfl | apply blk_hole rfl | exact NormC.nil rfl | apply nc_d rfl | apply nc_msl rfl | apply nc_mptr rfl | apply nc_fnc rfl | apply nc_mmap rfl | apply nc_ifc rfl | rfl)) ?_
      refine twp_block ?_
      refine twp_seq ?_
      refine twp_rseq ?_
      refine s_rd _ rfl (cmp_int rfl rfl rfl rfl) ?_
      refine s_rd _ rfl (mv_d (.inr rfl) rfl) ?_
      refine tops_nil ?_
      refine twp_norm [0, 1, 2, 3, 26, 27] (by repeat (first | exact SubK.nil | apply sub_d rfl | apply sub_msl rfl | apply sub_mptr rfl | apply SubK.cons _ _ _ _ rfl)) (by repeat (first | exact blk_nil rfl | apply blk_flat rfl | apply blk_boxN rfl | apply blk_map rfl | apply blk_dead rfl | apply blk_hole rfl | exact NormC.nil rfl | apply nc_d rfl | apply nc_msl rfl | apply nc_mptr rfl | apply nc_fnc rfl | apply nc_mmap rfl | apply nc_ifc rfl | rfl)) ?_
      refine twp_cond _ rfl (fun h3 => ?_) (fun h3 => ?_)
      · have hk27 := h3
        refine twp_skip ?_
        refine way_then ?_
        refine twp_norm [0, 1, 2, 3, 26, 27] (by repeat (first | exact SubK.nil | apply sub_d rfl | apply sub_msl rfl | apply sub_mptr rfl | apply SubK.cons _ _ _ _ rfl)) (by repeat (first | exact blk_nil rfl | apply blk_flat rfl | apply blk_boxN rfl | apply blk_map rfl | apply blk_dead rfl | apply blk_hole rfl | exact NormC.nil rfl | apply nc_d rfl | apply nc_msl rfl | apply nc_mptr rfl | apply nc_fnc rfl | apply nc_mmap rfl | apply nc_ifc rfl | rfl)) ?_
        refine twp_hyp rfl true hk27 ?_
        refine twp_rseq ?_
        refine s_rd _ rfl (by first | exact mv_d (.inl rfl) rfl | exact mv_msl (.inl rfl) rfl | exact mv_mptr (.inl rfl) rfl | exact rd_move (.inl rfl)) ?_
        refine s_rd _ rfl (by first | exact rd_nilCheck (.d _) rfl rfl rfl | exact rd_nilCheck (.mptr _ _ _ _) rfl rfl rfl | exact rd_nilCheck _ rfl rfl rfl) ?_
        refine s_rd _ rfl (by first | exact fieldAddr_ptr rfl fld47_1 rfl rfl | exact fieldAddr_mptr rfl fld47_1 rfl rfl) ?_
        refine s_rd _ rfl (by first | exact load_ptr rfl lay3 rfl rfl | exact load_flat rfl lay3 rfl rfl (by first | rfl | assumption | (simp only [List.getElem?_map, Option.map_some, *]; done)) rfl | exact load_box_d rfl lay3 rfl rfl rfl | exact load_box rfl lay3 rfl rfl rfl) ?_
        refine s_rd _ rfl (cmp_int rfl rfl rfl rfl) ?_
        refine s_rd _ rfl (mv_d (.inl rfl) rfl) ?_
        refine s_split 35 rfl (fun h5 => ?_) (fun h5 => ?_)
        · refine s_yes rfl rfl rfl ?_
          refine s_rd _ rfl (by first | exact mv_d (.inl rfl) rfl | exact mv_msl (.inl rfl) rfl | exact mv_mptr (.inl rfl) rfl | exact rd_move (.inl rfl)) ?_
          refine s_yes rfl rfl rfl ?_
          refine s_rd _ rfl (by first | exact rd_nilCheck (.d _) rfl rfl rfl | exact rd_nilCheck (.mptr _ _ _ _) rfl rfl rfl | exact rd_nilCheck _ rfl rfl rfl) ?_
          refine s_yes rfl rfl rfl ?_
          refine s_rd _ rfl (by first | exact fieldAddr_ptr rfl fld47_2 rfl rfl | exact fieldAddr_mptr rfl fld47_2 rfl rfl) ?_
          refine s_yes rfl rfl rfl ?_
          refine s_rd _ rfl (by first | exact load_ptr rfl lay45 rfl rfl | exact load_flat rfl lay45 rfl rfl (by first | rfl | assumption | (simp only [List.getElem?_map, Option.map_some, *]; done)) rfl | exact load_box_d rfl lay45 rfl rfl rfl | exact load_box rfl lay45 rfl rfl rfl) ?_
          refine s_yes rfl rfl rfl ?_
          refine s_rd _ rfl (by first | exact len_d rfl sel45 rfl (by first | exact List.length_map _ | exact Ex.encs_length _ | rfl) | exact len_msl rfl sel45 rfl | exact len_nil rfl sel45 rfl) ?_
          refine s_yes rfl rfl rfl ?_
          refine s_rd _ rfl (cmp_int rfl rfl rfl rfl) ?_
          refine s_rd _ rfl (by first | exact pick_Td rfl rfl rfl | exact pick_T rfl rfl rfl) ?_
          refine s_rd _ rfl (mv_d (.inr rfl) rfl) ?_
          refine tops_nil ?_
          refine twp_norm [8] (sub_d rfl .nil) (by repeat (first | exact blk_nil rfl | apply blk_flat rfl | apply blk_boxN rfl | apply blk_map rfl | apply blk_dead rfl | apply blk_hole rfl | exact NormC.nil rfl | apply nc_d rfl | apply nc_msl rfl | apply nc_mptr rfl | apply nc_fnc rfl | apply nc_mmap rfl | apply nc_ifc rfl | rfl)) ?_
          refine twp_ret ?_
          refine way_blockRet ?_
          refine way_thenRet ?_
          first
            | (have hfin2 := hfin; exact ⟨_, [0], res rfl, by decide, (fun i hi => by have e : i = 0 := Nat.lt_one_iff.1 hi; subst e; rfl), by rw [hfin]; rfl, by rw [hfin]; rfl⟩)
            | (have hinv2 := hinv; have hfa2 := hfa; exact ⟨_, [0], res rfl, by decide, (fun i hi => by have e : i = 0 := Nat.lt_one_iff.1 hi; subst e; rfl), by rw [← hinv]; rfl, by rw [← hinv]; rfl⟩)
            | (have hv := Ex.vl_eq e n d l; exact ⟨_, [0], res rfl, by decide, (fun i hi => by have e : i = 0 := Nat.lt_one_iff.1 hi; subst e; rfl), av_bool (by grind), by exact congrArg (fun n => [Blk.box 3 [AV.d (.int .i64 n)]]) (show _ = (e.vl n d l).2 by grind)⟩)
        · refine s_no rfl rfl rfl rfl ?_
          refine s_no rfl rfl rfl rfl ?_
          refine s_no rfl rfl rfl rfl ?_
          refine s_no rfl rfl rfl rfl ?_
          refine s_no rfl rfl rfl rfl ?_
          refine s_no rfl rfl rfl rfl ?_
          refine s_rd _ rfl (by first | exact pick_Fd rfl rfl rfl | exact pick_F rfl rfl rfl) ?_
          refine s_rd _ rfl (mv_d (.inr rfl) rfl) ?_
          refine tops_nil ?_
          refine twp_norm [8] (sub_d rfl .nil) (by repeat (first | exact blk_nil rfl | apply blk_flat rfl | apply blk_boxN rfl | apply blk_map rfl | apply blk_dead rfl | apply blk_hole rfl | exact NormC.nil rfl | apply nc_d rfl | apply nc_msl rfl | apply nc_mptr rfl | apply nc_fnc rfl | apply nc_mmap rfl | apply nc_ifc rfl | rfl)) ?_
          refine twp_ret ?_
          refine way_blockRet ?_
          refine way_thenRet ?_
          first
            | (have hfin2 := hfin; exact ⟨_, [0], res rfl, by decide, (fun i hi => by have e : i = 0 := Nat.lt_one_iff.1 hi; subst e; rfl), by rw [hfin]; rfl, by rw [hfin]; rfl⟩)
            | (have hinv2 := hinv; have hfa2 := hfa; exact ⟨_, [0], res rfl, by decide, (fun i hi => by have e : i = 0 := Nat.lt_one_iff.1 hi; subst e; rfl), by rw [← hinv]; rfl, by rw [← hinv]; rfl⟩)
            | (have hv := Ex.vl_eq e n d l; exact ⟨_, [0], res rfl, by decide, (fun i hi => by have e : i = 0 := Nat.lt_one_iff.1 hi; subst e; rfl), av_bool (by grind), by exact congrArg (fun n => [Blk.box 3 [AV.d (.int .i64 n)]]) (show _ = (e.vl n d l).2 by grind)⟩)
      · refine twp_region ?_
        refine s_rd _ rfl (cmp_int rfl rfl rfl rfl) ?_
        refine s_rd _ rfl (mv_d (.inr rfl) rfl) ?_
        refine tops_nil ?_
        refine way_then ?_
        refine twp_norm [0, 1, 2, 3, 26, 27] (by repeat (first | exact SubK.nil | apply sub_d rfl | apply sub_msl rfl | apply sub_mptr rfl | apply SubK.cons _ _ _ _ rfl)) (by repeat (first | exact blk_nil rfl | apply blk_flat rfl | apply blk_boxN rfl | apply blk_map rfl | apply blk_dead rfl | apply blk_hole rfl | exact NormC.nil rfl | apply nc_d rfl | apply nc_msl rfl | apply nc_mptr rfl | apply nc_fnc rfl | apply nc_mmap rfl | apply nc_ifc rfl | rfl)) ?_
        refine twp_cond _ rfl (fun h6 => ?_) (fun h6 => ?_)
        · refine twp_rseq ?_
          refine s_rd _ rfl (by first | exact mv_d (.inl rfl) rfl | exact mv_msl (.inl rfl) rfl | exact mv_mptr (.inl rfl) rfl | exact rd_move (.inl rfl)) ?_
          refine s_rd _ rfl (by first | exact rd_nilCheck (.d _) rfl rfl rfl | exact rd_nilCheck (.mptr _ _ _ _) rfl rfl rfl | exact rd_nilCheck _ rfl rfl rfl) ?_
          refine s_rd _ rfl (by first | exact fieldAddr_ptr rfl fld47_1 rfl rfl | exact fieldAddr_mptr rfl fld47_1 rfl rfl) ?_
          refine s_rd _ rfl (by first | exact load_ptr rfl lay3 rfl rfl | exact load_flat rfl lay3 rfl rfl (by first | rfl | assumption | (simp only [List.getElem?_map, Option.map_some, *]; done)) rfl | exact load_box_d rfl lay3 rfl rfl rfl | exact load_box rfl lay3 rfl rfl rfl) ?_
          refine s_rd _ rfl (cmp_int rfl rfl rfl rfl) ?_
          refine s_rd _ rfl (mv_d (.inl rfl) rfl) ?_
          refine s_split 35 rfl (fun h7 => ?_) (fun h7 => ?_)
          · refine s_yes rfl rfl rfl ?_
            refine s_rd _ rfl (by first | exact mv_d (.inl rfl) rfl | exact mv_msl (.inl rfl) rfl | exact mv_mptr (.inl rfl) rfl | exact rd_move (.inl rfl)) ?_
            refine s_yes rfl rfl rfl ?_
            refine s_rd _ rfl (by first | exact rd_nilCheck (.d _) rfl rfl rfl | exact rd_nilCheck (.mptr _ _ _ _) rfl rfl rfl | exact rd_nilCheck _ rfl rfl rfl) ?_
            refine s_yes rfl rfl rfl ?_
            refine s_rd _ rfl (by first | exact fieldAddr_ptr rfl fld47_2 rfl rfl | exact fieldAddr_mptr rfl fld47_2 rfl rfl) ?_
            refine s_yes rfl rfl rfl ?_
            refine s_rd _ rfl (by first | exact load_ptr rfl lay45 rfl rfl | exact load_flat rfl lay45 rfl rfl (by first | rfl | assumption | (simp only [List.getElem?_map, Option.map_some, *]; done)) rfl | exact load_box_d rfl lay45 rfl rfl rfl | exact load_box rfl lay45 rfl rfl rfl) ?_
            refine s_yes rfl rfl rfl ?_
            refine s_rd _ rfl (by first | exact len_d rfl sel45 rfl (by first | exact List.length_map _ | exact Ex.encs_length _ | rfl) | exact len_msl rfl sel45 rfl | exact len_nil rfl sel45 rfl) ?_
            refine s_yes rfl rfl rfl ?_
            refine s_rd _ rfl (cmp_int rfl rfl rfl rfl) ?_
            refine s_rd _ rfl (by first | exact pick_Td rfl rfl rfl | exact pick_T rfl rfl rfl) ?_
            refine s_rd _ rfl (mv_d (.inr rfl) rfl) ?_
            refine tops_nil ?_
            refine twp_norm [8] (sub_d rfl .nil) (by repeat (first | exact blk_nil rfl | apply blk_flat rfl | apply blk_boxN rfl | apply blk_map rfl | apply blk_dead rfl | apply blk_hole rfl | exact NormC.nil rfl | apply nc_d rfl | apply nc_msl rfl | apply nc_mptr rfl | apply nc_fnc rfl | apply nc_mmap rfl | apply nc_ifc rfl | rfl)) ?_
            refine twp_ret ?_
            refine way_blockRet ?_
            refine way_thenRet ?_
            first
              | (have hfin2 := hfin; exact ⟨_, [0], res rfl, by decide, (fun i hi => by have e : i = 0 := Nat.lt_one_iff.1 hi; subst e; rfl), by rw [hfin]; rfl, by rw [hfin]; rfl⟩)
              | (have hinv2 := hinv; have hfa2 := hfa; exact ⟨_, [0], res rfl, by decide, (fun i hi => by have e : i = 0 := Nat.lt_one_iff.1 hi; subst e; rfl), by rw [← hinv]; rfl, by rw [← hinv]; rfl⟩)
              | (have hv := Ex.vl_eq e n d l; exact ⟨_, [0], res rfl, by decide, (fun i hi => by have e : i = 0 := Nat.lt_one_iff.1 hi; subst e; rfl), av_bool (by grind), by exact congrArg (fun n => [Blk.box 3 [AV.d (.int .i64 n)]]) (show _ = (e.vl n d l).2 by grind)⟩)
          · refine s_no rfl rfl rfl rfl ?_
            refine s_no rfl rfl rfl rfl ?_
            refine s_no rfl rfl rfl rfl ?_
            refine s_no rfl rfl rfl rfl ?_
            refine s_no rfl rfl rfl rfl ?_
            refine s_no rfl rfl rfl rfl ?_
            refine s_rd _ rfl (by first | exact pick_Fd rfl rfl rfl | exact pick_F rfl rfl rfl) ?_
            refine s_rd _ rfl (mv_d (.inr rfl) rfl) ?_
            refine tops_nil ?_
            refine twp_norm [8] (sub_d rfl .nil) (by repeat (first | exact blk_nil rfl | apply blk_flat rfl | apply blk_boxN rfl | apply blk_map rfl | apply blk_dead rfl | apply blk_hole rfl | exact NormC.nil rfl | apply nc_d rfl | apply nc_msl rfl | apply nc_mptr rfl | apply nc_fnc rfl | apply nc_mmap rfl | apply nc_ifc rfl | rfl)) ?_
            refine twp_ret ?_
            refine way_blockRet ?_
            refine way_thenRet ?_
            first
              | (have hfin2 := hfin; exact ⟨_, [0], res rfl, by decide, (fun i hi => by have e : i = 0 := Nat.lt_one_iff.1 hi; subst e; rfl), by rw [hfin]; rfl, by rw [hfin]; rfl⟩)
              | (have hinv2 := hinv; have hfa2 := hfa; exact ⟨_, [0], res rfl, by decide, (fun i hi => by have e : i = 0 := Nat.lt_one_iff.1 hi; subst e; rfl), by rw [← hinv]; rfl, by rw [← hinv]; rfl⟩)
              | (have hv := Ex.vl_eq e n d l; exact ⟨_, [0], res rfl, by decide, (fun i hi => by have e : i = 0 := Nat.lt_one_iff.1 hi; subst e; rfl), av_bool (by grind), by exact congrArg (fun n => [Blk.box 3 [AV.d (.int .i64 n)]]) (show _ = (e.vl n d l).2 by grind)⟩)
        · refine twp_rseq ?_
          refine s_rd _ rfl (cmp_int rfl rfl rfl rfl) ?_
          refine s_rd _ rfl (mv_d (.inr rfl) rfl) ?_
          refine tops_nil ?_
          refine twp_norm [0, 1, 2, 3, 26, 43] (by repeat (first | exact SubK.nil | apply sub_d rfl | apply sub_msl rfl | apply sub_mptr rfl | apply SubK.cons _ _ _ _ rfl)) (by repeat (first | exact blk_nil rfl | apply blk_flat rfl | apply blk_boxN rfl | apply blk_map rfl | apply blk_dead rfl | apply blk_hole rfl | exact NormC.nil rfl | apply nc_d rfl | apply nc_msl rfl | apply nc_mptr rfl | apply nc_fnc rfl | apply nc_mmap rfl | apply nc_ifc rfl | rfl)) ?_
          refine twp_cond _ rfl (fun h8 => ?_) (fun h8 => ?_)
          · refine twp_rseq ?_
            refine s_rd _ rfl (by first | exact mv_d (.inl rfl) rfl | exact mv_msl (.inl rfl) rfl | exact mv_mptr (.inl rfl) rfl | exact rd_move (.inl rfl)) ?_
            refine s_rd _ rfl (by first | exact rd_nilCheck (.d _) rfl rfl rfl | exact rd_nilCheck (.mptr _ _ _ _) rfl rfl rfl | exact rd_nilCheck _ rfl rfl rfl) ?_
            refine s_rd _ rfl (by first | exact fieldAddr_ptr rfl fld47_1 rfl rfl | exact fieldAddr_mptr rfl fld47_1 rfl rfl) ?_
            refine s_rd _ rfl (by first | exact load_ptr rfl lay3 rfl rfl | exact load_flat rfl lay3 rfl rfl (by first | rfl | assumption | (simp only [List.getElem?_map, Option.map_some, *]; done)) rfl | exact load_box_d rfl lay3 rfl rfl rfl | exact load_box rfl lay3 rfl rfl rfl) ?_
            refine s_rd _ rfl (cmp_int rfl rfl rfl rfl) ?_
            refine s_rd _ rfl (mv_d (.inl rfl) rfl) ?_
            refine s_split 50 rfl (fun h9 => ?_) (fun h9 => ?_)
            · refine s_yes rfl rfl rfl ?_
              refine s_rd _ rfl (by first | exact mv_d (.inl rfl) rfl | exact mv_msl (.inl rfl) rfl | exact mv_mptr (.inl rfl) rfl | exact rd_move (.inl rfl)) ?_
              refine s_yes rfl rfl rfl ?_
              refine s_rd _ rfl (by first | exact rd_nilCheck (.d _) rfl rfl rfl | exact rd_nilCheck (.mptr _ _ _ _) rfl rfl rfl | exact rd_nilCheck _ rfl rfl rfl) ?_
              refine s_yes rfl rfl rfl ?_
              refine s_rd _ rfl (by first | exact fieldAddr_ptr rfl fld47_1 rfl rfl | exact fieldAddr_mptr rfl fld47_1 rfl rfl) ?_
              refine s_yes rfl rfl rfl ?_
              refine s_rd _ rfl (by first | exact load_ptr rfl lay3 rfl rfl | exact load_flat rfl lay3 rfl rfl (by first | rfl | assumption | (simp only [List.getElem?_map, Option.map_some, *]; done)) rfl | exact load_box_d rfl lay3 rfl rfl rfl | exact load_box rfl lay3 rfl rfl rfl) ?_
              refine s_yes rfl rfl rfl ?_
              refine s_rd _ rfl (by first | exact mv_d (.inl rfl) rfl | exact mv_msl (.inl rfl) rfl | exact mv_mptr (.inl rfl) rfl | exact rd_move (.inl rfl)) ?_
              refine s_yes rfl rfl rfl ?_
              refine s_rd _ rfl (cmp_int rfl rfl rfl rfl) ?_
              refine s_rd _ rfl (by first | exact pick_Td rfl rfl rfl | exact pick_T rfl rfl rfl) ?_
              refine s_rd _ rfl (mv_d (.inl rfl) rfl) ?_
              refine s_split 58 rfl (fun h10 => ?_) (fun h10 => ?_)
              · refine s_yes rfl rfl rfl ?_
                refine s_rd _ rfl (by first | exact mv_d (.inl rfl) rfl | exact mv_msl (.inl rfl) rfl | exact mv_mptr (.inl rfl) rfl | exact rd_move (.inl rfl)) ?_
                refine s_yes rfl rfl rfl ?_
                refine s_rd _ rfl (by first | exact rd_nilCheck (.d _) rfl rfl rfl | exact rd_nilCheck (.mptr _ _ _ _) rfl rfl rfl | exact rd_nilCheck _ rfl rfl rfl) ?_
                refine s_yes rfl rfl rfl ?_
                refine s_rd _ rfl (by first | exact fieldAddr_ptr rfl fld47_2 rfl rfl | exact fieldAddr_mptr rfl fld47_2 rfl rfl) ?_
                refine s_yes rfl rfl rfl ?_
                refine s_rd _ rfl (by first | exact load_ptr rfl lay45 rfl rfl | exact load_flat rfl lay45 rfl rfl (by first | rfl | assumption | (simp only [List.getElem?_map, Option.map_some, *]; done)) rfl | exact load_box_d rfl lay45 rfl rfl rfl | exact load_box rfl lay45 rfl rfl rfl) ?_
                refine s_yes rfl rfl rfl ?_
                refine s_rd _ rfl (by first | exact len_d rfl sel45 rfl (by first | exact List.length_map _ | exact Ex.encs_length _ | rfl) | exact len_msl rfl sel45 rfl | exact len_nil rfl sel45 rfl) ?_
                refine s_yes rfl rfl rfl ?_
                refine s_rd _ rfl (cmp_int rfl rfl rfl rfl) ?_
                refine s_rd _ rfl (by first | exact pick_Td rfl rfl rfl | exact pick_T rfl rfl rfl) ?_
                refine s_rd _ rfl (mv_d (.inr rfl) rfl) ?_
                refine tops_nil ?_
                refine twp_norm [8] (sub_d rfl .nil) (by repeat (first | exact blk_nil rfl | apply blk_flat rfl | apply blk_boxN rfl | apply blk_map rfl | apply blk_dead rfl | apply blk_hole rfl | exact NormC.nil rfl | apply nc_d rfl | apply nc_msl rfl | apply nc_mptr rfl | apply nc_fnc rfl | apply nc_mmap rfl | apply nc_ifc rfl | rfl)) ?_
                refine twp_ret ?_
                refine way_blockRet ?_
                refine way_thenRet ?_
                first
                  | (have hfin2 := hfin; exact ⟨_, [0], res rfl, by decide, (fun i hi => by have e : i = 0 := Nat.lt_one_iff.1 hi; subst e; rfl), by rw [hfin]; rfl, by rw [hfin]; rfl⟩)
                  | (have hinv2 := hinv; have hfa2 := hfa; exact ⟨_, [0], res rfl, by decide, (fun i hi => by have e : i = 0 := Nat.lt_one_iff.1 hi; subst e; rfl), by rw [← hinv]; rfl, by rw [← hinv]; rfl⟩)
                  | (have hv := Ex.vl_eq e n d l; exact ⟨_, [0], res rfl, by decide, (fun i hi => by have e : i = 0 := Nat.lt_one_iff.1 hi; subst e; rfl), av_bool (by grind), by exact congrArg (fun n => [Blk.box 3 [AV.d (.int .i64 n)]]) (show _ = (e.vl n d l).2 by grind)⟩)
              · refine s_no rfl rfl rfl rfl ?_
                refine s_no rfl rfl rfl rfl ?_
                refine s_no rfl rfl rfl rfl ?_
                refine s_no rfl rfl rfl rfl ?_
                refine s_no rfl rfl rfl rfl ?_
                refine s_no rfl rfl rfl rfl ?_
                refine s_rd _ rfl (by first | exact pick_Fd rfl rfl rfl | exact pick_F rfl rfl rfl) ?_
                refine s_rd _ rfl (mv_d (.inr rfl) rfl) ?_
                refine tops_nil ?_
                refine twp_norm [8] (sub_d rfl .nil) (by repeat (first | exact blk_nil rfl | apply blk_flat rfl | apply blk_boxN rfl | apply blk_map rfl | apply blk_dead rfl | apply blk_hole rfl | exact NormC.nil rfl | apply nc_d rfl | apply nc_msl rfl | apply nc_mptr rfl | apply nc_fnc rfl | apply nc_mmap rfl | apply nc_ifc rfl | rfl)) ?_
                refine twp_ret ?_
                refine way_blockRet ?_
                refine way_thenRet ?_
                first
                  | (have hfin2 := hfin; exact ⟨_, [0], res rfl, by decide, (fun i hi => by have e : i = 0 := Nat.lt_one_iff.1 hi; subst e; rfl), by rw [hfin]; rfl, by rw [hfin]; rfl⟩)
                  | (have hinv2 := hinv; have hfa2 := hfa; exact ⟨_, [0], res rfl, by decide, (fun i hi => by have e : i = 0 := Nat.lt_one_iff.1 hi; subst e; rfl), by rw [← hinv]; rfl, by rw [← hinv]; rfl⟩)
                  | (have hv := Ex.vl_eq e n d l; exact ⟨_, [0], res rfl, by decide, (fun i hi => by have e : i = 0 := Nat.lt_one_iff.1 hi; subst e; rfl), av_bool (by grind), by exact congrArg (fun n => [Blk.box 3 [AV.d (.int .i64 n)]]) (show _ = (e.vl n d l).2 by grind)⟩)
            · refine s_no rfl rfl rfl rfl ?_
              refine s_no rfl rfl rfl rfl ?_
              refine s_no rfl rfl rfl rfl ?_
              refine s_no rfl rfl rfl rfl ?_
              refine s_no rfl rfl rfl rfl ?_
              refine s_no rfl rfl rfl rfl ?_
              refine s_rd _ rfl (by first | exact pick_Fd rfl rfl rfl | exact pick_F rfl rfl rfl) ?_
              refine s_rd _ rfl (mv_d (.inl rfl) rfl) ?_
              refine s_no rfl rfl rfl rfl ?_
              refine s_no rfl rfl rfl rfl ?_
              refine s_no rfl rfl rfl rfl ?_
              refine s_no rfl rfl rfl rfl ?_
              refine s_no rfl rfl rfl rfl ?_
              refine s_no rfl rfl rfl rfl ?_
              refine s_rd _ rfl (by first | exact pick_Fd rfl rfl rfl | exact pick_F rfl rfl rfl) ?_
              refine s_rd _ rfl (mv_d (.inr rfl) rfl) ?_
              refine tops_nil ?_
              refine twp_norm [8] (sub_d rfl .nil) (by repeat (first | exact blk_nil rfl | apply blk_flat rfl | apply blk_boxN rfl | apply blk_map rfl | apply blk_dead rfl | apply blk_hole rfl | exact NormC.nil rfl | apply nc_d rfl | apply nc_msl rfl | apply nc_mptr rfl | apply nc_fnc rfl | apply nc_mmap rfl | apply nc_ifc rfl | rfl)) ?_
              refine twp_ret ?_
              refine way_blockRet ?_
              refine way_thenRet ?_
              first
                | (have hfin2 := hfin; exact ⟨_, [0], res rfl, by decide, (fun i hi => by have e : i = 0 := Nat.lt_one_iff.1 hi; subst e; rfl), by rw [hfin]; rfl, by rw [hfin]; rfl⟩)
                | (have hinv2 := hinv; have hfa2 := hfa; exact ⟨_, [0], res rfl, by decide, (fun i hi => by have e : i = 0 := Nat.lt_one_iff.1 hi; subst e; rfl), by rw [← hinv]; rfl, by rw [← hinv]; rfl⟩)
                | (have hv := Ex.vl_eq e n d l; exact ⟨_, [0], res rfl, by decide, (fun i hi => by have e : i = 0 := Nat.lt_one_iff.1 hi; subst e; rfl), av_bool (by grind), by exact congrArg (fun n => [Blk.box 3 [AV.d (.int .i64 n)]]) (show _ = (e.vl n d l).2 by grind)⟩)
          · refine twp_rseq ?_
            refine s_rd _ rfl (cmp_int rfl rfl rfl rfl) ?_
            refine s_rd _ rfl (mv_d (.inr rfl) rfl) ?_
            refine tops_nil ?_
            refine twp_norm [0, 1, 2, 3, 26, 66] (by repeat (first | exact SubK.nil | apply sub_d rfl | apply sub_msl rfl | apply sub_mptr rfl | apply SubK.cons _ _ _ _ rfl)) (by repeat (first | exact blk_nil rfl | apply blk_flat rfl | apply blk_boxN rfl | apply blk_map rfl | apply blk_dead rfl | apply blk_hole rfl | exact NormC.nil rfl | apply nc_d rfl | apply nc_msl rfl | apply nc_mptr rfl | apply nc_fnc rfl | apply nc_mmap rfl | apply nc_ifc rfl | rfl)) ?_
            refine twp_cond _ rfl (fun h11 => ?_) (fun h11 => ?_)
            · refine twp_rseq ?_
              refine s_rd _ rfl (by first | exact mv_d (.inl rfl) rfl | exact mv_msl (.inl rfl) rfl | exact mv_mptr (.inl rfl) rfl | exact rd_move (.inl rfl)) ?_
              refine s_rd _ rfl (by first | exact rd_nilCheck (.d _) rfl rfl rfl | exact rd_nilCheck (.mptr _ _ _ _) rfl rfl rfl | exact rd_nilCheck _ rfl rfl rfl) ?_
              refine s_rd _ rfl (by first | exact fieldAddr_ptr rfl fld47_2 rfl rfl | exact fieldAddr_mptr rfl fld47_2 rfl rfl) ?_
              refine s_rd _ rfl (by first | exact load_ptr rfl lay45 rfl rfl | exact load_flat rfl lay45 rfl rfl (by first | rfl | assumption | (simp only [List.getElem?_map, Option.map_some, *]; done)) rfl | exact load_box_d rfl lay45 rfl rfl rfl | exact load_box rfl lay45 rfl rfl rfl) ?_
              refine s_rd _ rfl (by first | exact len_d rfl sel45 rfl (by first | exact List.length_map _ | exact Ex.encs_length _ | rfl) | exact len_msl rfl sel45 rfl | exact len_nil rfl sel45 rfl) ?_
              refine s_rd _ rfl (cmp_int rfl rfl rfl rfl) ?_
              refine tops_nil ?_
              refine twp_norm [0, 1, 2, 3, 73] (by repeat (first | exact SubK.nil | apply sub_d rfl | apply sub_msl rfl | apply sub_mptr rfl | apply SubK.cons _ _ _ _ rfl)) (by repeat (first | exact blk_nil rfl | apply blk_flat rfl | apply blk_boxN rfl | apply blk_map rfl | apply blk_dead rfl | apply blk_hole rfl | exact NormC.nil rfl | apply nc_d rfl | apply nc_msl rfl | apply nc_mptr rfl | apply nc_fnc rfl | apply nc_mmap rfl | apply nc_ifc rfl | rfl)) ?_
              refine twp_cond _ rfl (fun h12 => ?_) (fun h12 => ?_)
              · refine twp_rseq ?_
                refine s_rd _ rfl (mv_d (.inr rfl) rfl) ?_
                refine tops_nil ?_
                refine twp_norm [8] (sub_d rfl .nil) (by repeat (first | exact blk_nil rfl | apply blk_flat rfl | apply blk_boxN rfl | apply blk_map rfl | apply blk_dead rfl | apply blk_hole rfl | exact NormC.nil rfl | apply nc_d rfl | apply nc_msl rfl | apply nc_mptr rfl | apply nc_fnc rfl | apply nc_mmap rfl | apply nc_ifc rfl | rfl)) ?_
                refine twp_ret ?_
                refine way_blockRet ?_
                refine way_thenRet ?_
                first
                  | (have hfin2 := hfin; exact ⟨_, [0], res rfl, by decide, (fun i hi => by have e : i = 0 := Nat.lt_one_iff.1 hi; subst e; rfl), by rw [hfin]; rfl, by rw [hfin]; rfl⟩)
                  | (have hinv2 := hinv; have hfa2 := hfa; exact ⟨_, [0], res rfl, by decide, (fun i hi => by have e : i = 0 := Nat.lt_one_iff.1 hi; subst e; rfl), by rw [← hinv]; rfl, by rw [← hinv]; rfl⟩)
                  | (have hv := Ex.vl_eq e n d l; exact ⟨_, [0], res rfl, by decide, (fun i hi => by have e : i = 0 := Nat.lt_one_iff.1 hi; subst e; rfl), av_bool (by grind), by exact congrArg (fun n => [Blk.box 3 [AV.d (.int .i64 n)]]) (show _ = (e.vl n d l).2 by grind)⟩)
              · refine twp_skip ?_
                refine way_block ?_
                refine way_then ?_
                refine twp_norm [0, 1, 2, 3] (by repeat (first | exact SubK.nil | apply sub_d rfl | apply sub_msl rfl | apply sub_mptr rfl | apply SubK.cons _ _ _ _ rfl)) (by repeat (first | exact blk_nil rfl | apply blk_flat rfl | apply blk_boxN rfl | apply blk_map rfl | apply blk_dead rfl | apply blk_hole rfl | exact NormC.nil rfl | apply nc_d rfl | apply nc_msl rfl | apply nc_mptr rfl | apply nc_fnc rfl | apply nc_mmap rfl | apply nc_ifc rfl | rfl)) ?_
                refine twp_seq ?_
                refine twp_rseq ?_
                refine s_rd _ rfl (by first | exact mv_d (.inl rfl) rfl | exact mv_msl (.inl rfl) rfl | exact mv_mptr (.inl rfl) rfl | exact rd_move (.inl rfl)) ?_
                refine s_rd _ rfl (by first | exact rd_nilCheck (.d _) rfl rfl rfl | exact rd_nilCheck (.mptr _ _ _ _) rfl rfl rfl | exact rd_nilCheck _ rfl rfl rfl) ?_
                refine s_rd _ rfl (by first | exact fieldAddr_ptr rfl fld47_1 rfl rfl | exact fieldAddr_mptr rfl fld47_1 rfl rfl) ?_
                refine s_rd _ rfl (by first | exact load_ptr rfl lay3 rfl rfl | exact load_flat rfl lay3 rfl rfl (by first | rfl | assumption | (simp only [List.getElem?_map, Option.map_some, *]; done)) rfl | exact load_box_d rfl lay3 rfl rfl rfl | exact load_box rfl lay3 rfl rfl rfl) ?_
                refine s_rd _ rfl (cmp_int rfl rfl rfl rfl) ?_
                refine tops_nil ?_
                refine twp_norm [0, 1, 2, 3, 81] (by repeat (first | exact SubK.nil | apply sub_d rfl | apply sub_msl rfl | apply sub_mptr rfl | apply SubK.cons _ _ _ _ rfl)) (by repeat (first | exact blk_nil rfl | apply blk_flat rfl | apply blk_boxN rfl | apply blk_map rfl | apply blk_dead rfl | apply blk_hole rfl | exact NormC.nil rfl | apply nc_d rfl | apply nc_msl rfl | apply nc_mptr rfl | apply nc_fnc rfl | apply nc_mmap rfl | apply nc_ifc rfl | rfl)) ?_
                refine twp_cond _ rfl (fun h13 => ?_) (fun h13 => ?_)
                · refine twp_rseq ?_
                  refine s_rd _ rfl (mv_d (.inr rfl) rfl) ?_
                  refine tops_nil ?_
                  refine twp_norm [8] (sub_d rfl .nil) (by repeat (first | exact blk_nil rfl | apply blk_flat rfl | apply blk_boxN rfl | apply blk_map rfl | apply blk_dead rfl | apply blk_hole rfl | exact NormC.nil rfl | apply nc_d rfl | apply nc_msl rfl | apply nc_mptr rfl | apply nc_fnc rfl | apply nc_mmap rfl | apply nc_ifc rfl | rfl)) ?_
                  refine twp_ret ?_
                  refine way_thenRet ?_
                  first
                    | (have hfin2 := hfin; exact ⟨_, [0], res rfl, by decide, (fun i hi => by have e : i = 0 := Nat.lt_one_iff.1 hi; subst e; rfl), by rw [hfin]; rfl, by rw [hfin]; rfl⟩)
                    | (have hinv2 := hinv; have hfa2 := hfa; exact ⟨_, [0], res rfl, by decide, (fun i hi => by have e : i = 0 := Nat.lt_one_iff.1 hi; subst e; rfl), by rw [← hinv]; rfl, by rw [← hinv]; rfl⟩)
                    | (have hv := Ex.vl_eq e n d l; exact ⟨_, [0], res rfl, by decide, (fun i hi => by have e : i = 0 := Nat.lt_one_iff.1 hi; subst e; rfl), av_bool (by grind), by exact congrArg (fun n => [Blk.box 3 [AV.d (.int .i64 n)]]) (show _ = (e.vl n d l).2 by grind)⟩)
                · refine twp_skip ?_
                  refine way_then ?_
                  refine twp_norm [0, 1, 2, 3] (by repeat (first | exact SubK.nil | apply sub_d rfl | apply sub_msl rfl | apply sub_mptr rfl | apply SubK.cons _ _ _ _ rfl)) (by repeat (first | exact blk_nil rfl | apply blk_flat rfl | apply blk_boxN rfl | apply blk_map rfl | apply blk_dead rfl | apply blk_hole rfl | exact NormC.nil rfl | apply nc_d rfl | apply nc_msl rfl | apply nc_mptr rfl | apply nc_fnc rfl | apply nc_mmap rfl | apply nc_ifc rfl | rfl)) ?_
                  refine twp_seq ?_
                  refine twp_rseq ?_
                  have hvl : e.vl n d l = Ex.vls e.args n (d + 1) (l - 1) := by grind [Ex.vl_eq e n d l]
                  refine s_rd _ rfl (by first | exact mv_d (.inl rfl) rfl | exact mv_msl (.inl rfl) rfl | exact mv_mptr (.inl rfl) rfl | exact rd_move (.inl rfl)) ?_
                  refine s_rd _ rfl (by first | exact rd_nilCheck (.d _) rfl rfl rfl | exact rd_nilCheck (.mptr _ _ _ _) rfl rfl rfl | exact rd_nilCheck _ rfl rfl rfl) ?_
                  refine s_rd _ rfl (by first | exact fieldAddr_ptr rfl fld47_2 rfl rfl | exact fieldAddr_mptr rfl fld47_2 rfl rfl) ?_
                  refine s_rd _ rfl (by first | exact load_ptr rfl lay45 rfl rfl | exact load_flat rfl lay45 rfl rfl (by first | rfl | assumption | (simp only [List.getElem?_map, Option.map_some, *]; done)) rfl | exact load_box_d rfl lay45 rfl rfl rfl | exact load_box rfl lay45 rfl rfl rfl) ?_
                  refine s_rd _ rfl (by first | exact len_d rfl sel45 rfl (by first | exact List.length_map _ | exact Ex.encs_length _ | rfl) | exact len_msl rfl sel45 rfl | exact len_nil rfl sel45 rfl) ?_
                  refine s_rd _ rfl (mv_d (.inl rfl) rfl) ?_
                  refine tops_nil ?_
                  refine twp_norm [0, 1, 2, 3, 86, 87] (by repeat (first | exact SubK.nil | apply sub_d rfl | apply sub_msl rfl | apply sub_mptr rfl | apply SubK.cons _ _ _ _ rfl)) (by repeat (first | exact blk_nil rfl | apply blk_flat rfl | apply blk_boxN rfl | apply blk_map rfl | apply blk_dead rfl | apply blk_hole rfl | exact NormC.nil rfl | apply nc_d rfl | apply nc_msl rfl | apply nc_mptr rfl | apply nc_fnc rfl | apply nc_mmap rfl | apply nc_ifc rfl | rfl)) ?_
                  refine twp_block ?_
                  refine twp_whileK (fun i => ([(87, .d (.int .i64 ((i : Nat) : Int)))] : Fr)) (fun i => ([(0, .box 3 [.d (.int .i64 (l - 1 - (Ex.sizes (e.args.take i) : Int)))])] : List (Nat × Blk))) (fun i => i ≤ e.args.length ∧ (Ex.vls (e.args.drop i) n (d + 1) (l - 1 - (Ex.sizes (e.args.take i) : Int)) = e.vl n d l ∧ (Ex.sizes (e.args.take i) : Int) ≤ l - 1)) (fun i => e.args.length - i) [87] [0, 1, 2, 3, 86] [0] 0 (by decide) (fun i hi => by have e : i = 0 := Nat.lt_one_iff.1 hi; subst e; rfl) ⟨Nat.zero_le _, ⟨by rw [List.take_zero, List.drop_zero]; simp only [Ex.sizes]; rw [hvl]; congr 1; omega, by rw [List.take_zero]; simp only [Ex.sizes]; grind⟩⟩ (by repeat (first | exact SubK.nil | apply sub_d rfl | apply sub_msl rfl | apply sub_mptr rfl | apply SubK.cons _ _ _ _ rfl)) rfl rfl (by repeat (first | exact blk_nil rfl | apply blk_flat rfl | apply blk_boxN rfl | apply blk_map rfl | apply blk_dead rfl | apply blk_hole rfl | exact NormC.nil rfl | apply nc_d rfl | apply nc_msl rfl | apply nc_mptr rfl | apply nc_fnc rfl | apply nc_mmap rfl | apply nc_ifc rfl | rfl)) (by rw [List.take_zero]; simp only [Ex.sizes]; show [Blk.box 3 [AV.d (.int .i64 (l - 1))]] = [Blk.box 3 [AV.d (.int .i64 (l - 1 - ((0 : Nat) : Int)))]]; rw [show l - 1 - ((0 : Nat) : Int) = l - 1 by omega]) ?_
                  rintro i ⟨hok, ⟨hinv, hle⟩⟩
                  refine twp_norm [87, 0, 1, 2, 3, 86] (by repeat (first | exact SubK.nil | apply sub_d rfl | apply sub_msl rfl | apply sub_mptr rfl | apply SubK.cons _ _ _ _ rfl)) (by repeat (first | exact blk_nil rfl | apply blk_flat rfl | apply blk_boxN rfl | apply blk_map rfl | apply blk_dead rfl | apply blk_hole rfl | exact NormC.nil rfl | apply nc_d rfl | apply nc_msl rfl | apply nc_mptr rfl | apply nc_fnc rfl | apply nc_mmap rfl | apply nc_ifc rfl | rfl)) ?_
                  refine twp_rseq ?_
                  refine s_rd _ rfl (cmp_int rfl rfl rfl rfl) ?_
                  refine tops_nil ?_
                  refine twp_norm [0, 1, 2, 3, 86, 87, 88] (by repeat (first | exact SubK.nil | apply sub_d rfl | apply sub_msl rfl | apply sub_mptr rfl | apply SubK.cons _ _ _ _ rfl)) (by repeat (first | exact blk_nil rfl | apply blk_flat rfl | apply blk_boxN rfl | apply blk_map rfl | apply blk_dead rfl | apply blk_hole rfl | exact NormC.nil rfl | apply nc_d rfl | apply nc_msl rfl | apply nc_mptr rfl | apply nc_fnc rfl | apply nc_mmap rfl | apply nc_ifc rfl | rfl)) ?_
                  refine twp_seq ?_
                  refine twp_cond _ rfl (fun hlt => ?_) (fun hlt => ?_)
                  · have hlt : i < e.args.length := by simpa using hlt
                    obtain ⟨a, ha⟩ : ∃ x, (e.args)[i]? = some x := ⟨_, List.getElem?_eq_getElem (by first | exact hlt | omega | (simp; omega))⟩
                    obtain ⟨hok1, hok2, hok3, hok4⟩ := Ex.vl_ok n a (d + 1) (l - 1 - (Ex.sizes (e.args.take i) : Int)) (by omega)
                    rw [drop_cons ha] at hinv
                    simp only [Ex.vls] at hinv
                    have hsz := Ex.sizes_succ ha
                    refine twp_skip ?_
                    refine way_then ?_
                    refine twp_norm [0, 1, 2, 3, 86, 87] (by repeat (first | exact SubK.nil | apply sub_d rfl | apply sub_msl rfl | apply sub_mptr rfl | apply SubK.cons _ _ _ _ rfl)) (by repeat (first | exact blk_nil rfl | apply blk_flat rfl | apply blk_boxN rfl | apply blk_map rfl | apply blk_dead rfl | apply blk_hole rfl | exact NormC.nil rfl | apply nc_d rfl | apply nc_msl rfl | apply nc_mptr rfl | apply nc_fnc rfl | apply nc_mmap rfl | apply nc_ifc rfl | rfl)) ?_
                    refine twp_seq ?_
                    refine twp_block ?_
                    refine twp_rseq ?_
                    refine s_rd _ rfl (mv_d (.inl rfl) rfl) ?_
                    refine s_rd _ rfl (mv_d (.inr rfl) rfl) ?_
                    refine tops_nil ?_
                    refine twp_norm [0, 1, 2, 3, 9, 86, 87] (by repeat (first | exact SubK.nil | apply sub_d rfl | apply sub_msl rfl | apply sub_mptr rfl | apply SubK.cons _ _ _ _ rfl)) (by repeat (first | exact blk_nil rfl | apply blk_flat rfl | apply blk_boxN rfl | apply blk_map rfl | apply blk_dead rfl | apply blk_hole rfl | exact NormC.nil rfl | apply nc_d rfl | apply nc_msl rfl | apply nc_mptr rfl | apply nc_fnc rfl | apply nc_mmap rfl | apply nc_ifc rfl | rfl)) ?_
                    refine twp_rseq ?_
                    refine s_rd _ rfl (by first | exact mv_d (.inl rfl) rfl | exact mv_msl (.inl rfl) rfl | exact mv_mptr (.inl rfl) rfl | exact rd_move (.inl rfl)) ?_
                    refine s_rd _ rfl (by first | exact rd_nilCheck (.d _) rfl rfl rfl | exact rd_nilCheck (.mptr _ _ _ _) rfl rfl rfl | exact rd_nilCheck _ rfl rfl rfl) ?_
                    refine s_rd _ rfl (by first | exact fieldAddr_ptr rfl fld47_2 rfl rfl | exact fieldAddr_mptr rfl fld47_2 rfl rfl) ?_
                    refine s_rd _ rfl (by first | exact load_ptr rfl lay45 rfl rfl | exact load_flat rfl lay45 rfl rfl (by first | rfl | assumption | (simp only [List.getElem?_map, Option.map_some, *]; done)) rfl | exact load_box_d rfl lay45 rfl rfl rfl | exact load_box rfl lay45 rfl rfl rfl) ?_
                    refine s_rd _ rfl (mv_d (.inl rfl) rfl) ?_
                    refine s_rd _ rfl (by first | exact index_msl0 rfl sel45 rfl rfl (by first | assumption | omega | (simp; omega)) | exact index_sl rfl sel45 rfl rfl (Ex.idx_encs ha)) ?_
                    refine s_rd _ rfl (by first | exact mv_d (.inl rfl) rfl | exact mv_msl (.inl rfl) rfl | exact mv_mptr (.inl rfl) rfl | exact rd_move (.inl rfl)) ?_
                    refine s_rd _ rfl (by first | exact mv_d (.inl rfl) rfl | exact mv_msl (.inl rfl) rfl | exact mv_mptr (.inl rfl) rfl | exact rd_move (.inl rfl)) ?_
                    refine s_rd _ rfl (arith_ok rfl rfl rfl rfl (by grind)) ?_
                    refine s_rd _ rfl (by first | exact mv_d (.inl rfl) rfl | exact mv_msl (.inl rfl) rfl | exact mv_mptr (.inl rfl) rfl | exact rd_move (.inl rfl)) ?_
                    refine s_callW [0] rfl rfl rfl (by decide) rfl rfl rfl (ih a (List.mem_of_getElem? ha) _ _ (by omega) (by grind) (by omega) (by omega) (hw.arg a (List.mem_of_getElem? ha))) rfl rfl ?_
                    refine s_rd _ rfl (not_b rfl rfl rfl) ?_
                    refine tops_nil ?_
                    refine twp_norm [0, 1, 2, 3, 86, 87, 101] (by repeat (first | exact SubK.nil | apply sub_d rfl | apply sub_msl rfl | apply sub_mptr rfl | apply SubK.cons _ _ _ _ rfl)) (by repeat (first | exact blk_nil rfl | apply blk_flat rfl | apply blk_boxN rfl | apply blk_map rfl | apply blk_dead rfl | apply blk_hole rfl | exact NormC.nil rfl | apply nc_d rfl | apply nc_msl rfl | apply nc_mptr rfl | apply nc_fnc rfl | apply nc_mmap rfl | apply nc_ifc rfl | rfl)) ?_
                    refine twp_cond _ rfl (fun hfa => ?_) (fun hfa => ?_)
                    · have hfa : (a.vl n (d + 1) (l - 1 - (Ex.sizes (e.args.take i) : Int))).1 = false := by simpa using hfa
                      rw [hfa, if_neg Bool.false_ne_true] at hinv
                      refine twp_rseq ?_
                      refine s_rd _ rfl (mv_d (.inr rfl) rfl) ?_
                      refine tops_nil ?_
                      refine twp_norm [8] (sub_d rfl .nil) (by repeat (first | exact blk_nil rfl | apply blk_flat rfl | apply blk_boxN rfl | apply blk_map rfl | apply blk_dead rfl | apply blk_hole rfl | exact NormC.nil rfl | apply nc_d rfl | apply nc_msl rfl | apply nc_mptr rfl | apply nc_fnc rfl | apply nc_mmap rfl | apply nc_ifc rfl | rfl)) ?_
                      refine twp_ret ?_
                      refine way_blockRet ?_
                      refine way_thenRet ?_
                      refine way_thenRet ?_
                      refine way_blockRet ?_
                      refine way_thenRet ?_
                      first
                        | (have hfin2 := hfin; exact ⟨_, [0], res rfl, by decide, (fun i hi => by have e : i = 0 := Nat.lt_one_iff.1 hi; subst e; rfl), by rw [hfin]; rfl, by rw [hfin]; rfl⟩)
                        | (have hinv2 := hinv; have hfa2 := hfa; exact ⟨_, [0], res rfl, by decide, (fun i hi => by have e : i = 0 := Nat.lt_one_iff.1 hi; subst e; rfl), by rw [← hinv]; rfl, by rw [← hinv]; rfl⟩)
                        | (have hv := Ex.vl_eq e n d l; exact ⟨_, [0], res rfl, by decide, (fun i hi => by have e : i = 0 := Nat.lt_one_iff.1 hi; subst e; rfl), av_bool (by grind), by exact congrArg (fun n => [Blk.box 3 [AV.d (.int .i64 n)]]) (show _ = (e.vl n d l).2 by grind)⟩)
                    · have hfa : (a.vl n (d + 1) (l - 1 - (Ex.sizes (e.args.take i) : Int))).1 = true := by simpa using hfa
                      rw [hfa, if_pos rfl, hok2 hfa] at hinv
                      have hnext : Ex.vls (e.args.drop (i + 1)) n (d + 1) (l - 1 - ((Ex.sizes (e.args.take i) + a.size : Nat) : Int)) = e.vl n d l := by rw [← hinv]; congr 1; omega
                      have hsb := (hok1.1 hfa).2.1
                      refine twp_skip ?_
                      refine way_block ?_
                      refine way_then ?_
                      refine twp_norm [0, 1, 2, 3, 86, 87] (by repeat (first | exact SubK.nil | apply sub_d rfl | apply sub_msl rfl | apply sub_mptr rfl | apply SubK.cons _ _ _ _ rfl)) (by repeat (first | exact blk_nil rfl | apply blk_flat rfl | apply blk_boxN rfl | apply blk_map rfl | apply blk_dead rfl | apply blk_hole rfl | exact NormC.nil rfl | apply nc_d rfl | apply nc_msl rfl | apply nc_mptr rfl | apply nc_fnc rfl | apply nc_mmap rfl | apply nc_ifc rfl | rfl)) ?_
                      refine twp_region ?_
                      refine s_rd _ rfl (arith_ok rfl rfl rfl rfl (by omega)) ?_
                      refine s_rd _ rfl (mv_d (.inl rfl) rfl) ?_
                      refine tops_nil ?_
                      refine way_then ?_
                      exact ⟨(i + 1), [0], by decide, (fun i hi => by have e : i = 0 := Nat.lt_one_iff.1 hi; subst e; rfl), ⟨by omega, ⟨by rw [hsz]; exact hnext, by rw [hsz]; omega⟩⟩, (by omega), (by rw [hsz, show l - 1 - ((Ex.sizes (e.args.take i) + a.size : Nat) : Int) = (a.vl n (d + 1) (l - 1 - (Ex.sizes (e.args.take i) : Int))).2 by rw [hok2 hfa]; omega]; rfl)⟩
                  · have hge : ¬ i < e.args.length := by simpa using hlt
                    have hi : i = e.args.length := by omega
                    have hfin : e.vl n d l = (true, l - 1 - (Ex.sizes (e.args.take i) : Int)) := by rw [← hinv, drop_nil (by omega)]; simp [Ex.vls]
                    refine twp_exit ?_
                    refine way_thenExit ?_
                    refine way_thenExit ?_
                    refine way_here ?_
                    refine way_then ?_
                    refine twp_norm [] .nil (by repeat (first | exact blk_nil rfl | apply blk_flat rfl | apply blk_boxN rfl | apply blk_map rfl | apply blk_dead rfl | apply blk_hole rfl | exact NormC.nil rfl | apply nc_d rfl | apply nc_msl rfl | apply nc_mptr rfl | apply nc_fnc rfl | apply nc_mmap rfl | apply nc_ifc rfl | rfl)) ?_
                    refine twp_rseq ?_
                    refine s_rd _ rfl (mv_d (.inr rfl) rfl) ?_
                    refine tops_nil ?_
                    refine twp_norm [8] (sub_d rfl .nil) (by repeat (first | exact blk_nil rfl | apply blk_flat rfl | apply blk_boxN rfl | apply blk_map rfl | apply blk_dead rfl | apply blk_hole rfl | exact NormC.nil rfl | apply nc_d rfl | apply nc_msl rfl | apply nc_mptr rfl | apply nc_fnc rfl | apply nc_mmap rfl | apply nc_ifc rfl | rfl)) ?_
                    refine twp_ret ?_
                    first
                      | (have hfin2 := hfin; exact ⟨_, [0], res rfl, by decide, (fun i hi => by have e : i = 0 := Nat.lt_one_iff.1 hi; subst e; rfl), by rw [hfin]; rfl, by rw [hfin]; rfl⟩)
                      | (have hinv2 := hinv; have hfa2 := hfa; exact ⟨_, [0], res rfl, by decide, (fun i hi => by have e : i = 0 := Nat.lt_one_iff.1 hi; subst e; rfl), by rw [← hinv]; rfl, by rw [← hinv]; rfl⟩)
                      | (have hv := Ex.vl_eq e n d l; exact ⟨_, [0], res rfl, by decide, (fun i hi => by have e : i = 0 := Nat.lt_one_iff.1 hi; subst e; rfl), av_bool (by grind), by exact congrArg (fun n => [Blk.box 3 [AV.d (.int .i64 n)]]) (show _ = (e.vl n d l).2 by grind)⟩)
            · refine twp_seq ?_
              refine twp_rseq ?_
              refine s_rd _ rfl (cmp_int rfl rfl rfl rfl) ?_
              refine s_rd _ rfl (mv_d (.inr rfl) rfl) ?_
              refine tops_nil ?_
              refine twp_norm [0, 1, 2, 3, 26, 74] (by repeat (first | exact SubK.nil | apply sub_d rfl | apply sub_msl rfl | apply sub_mptr rfl | apply SubK.cons _ _ _ _ rfl)) (by repeat (first | exact blk_nil rfl | apply blk_flat rfl | apply blk_boxN rfl | apply blk_map rfl | apply blk_dead rfl | apply blk_hole rfl | exact NormC.nil rfl | apply nc_d rfl | apply nc_msl rfl | apply nc_mptr rfl | apply nc_fnc rfl | apply nc_mmap rfl | apply nc_ifc rfl | rfl)) ?_
              refine twp_cond _ rfl (fun h16 => ?_) (fun h16 => ?_)
              · have hk74 := h16
                refine twp_skip ?_
                refine way_then ?_
                refine twp_norm [0, 1, 2, 3, 74] (by repeat (first | exact SubK.nil | apply sub_d rfl | apply sub_msl rfl | apply sub_mptr rfl | apply SubK.cons _ _ _ _ rfl)) (by repeat (first | exact blk_nil rfl | apply blk_flat rfl | apply blk_boxN rfl | apply blk_map rfl | apply blk_dead rfl | apply blk_hole rfl | exact NormC.nil rfl | apply nc_d rfl | apply nc_msl rfl | apply nc_mptr rfl | apply nc_fnc rfl | apply nc_mmap rfl | apply nc_ifc rfl | rfl)) ?_
                refine twp_hyp rfl true hk74 ?_
                refine twp_skip ?_
                refine way_block ?_
                refine way_then ?_
                refine twp_norm [0, 1, 2, 3] (by repeat (first | exact SubK.nil | apply sub_d rfl | apply sub_msl rfl | apply sub_mptr rfl | apply SubK.cons _ _ _ _ rfl)) (by repeat (first | exact blk_nil rfl | apply blk_flat rfl | apply blk_boxN rfl | apply blk_map rfl | apply blk_dead rfl | apply blk_hole rfl | exact NormC.nil rfl | apply nc_d rfl | apply nc_msl rfl | apply nc_mptr rfl | apply nc_fnc rfl | apply nc_mmap rfl | apply nc_ifc rfl | rfl)) ?_
                refine twp_seq ?_
                refine twp_rseq ?_
                refine s_rd _ rfl (by first | exact mv_d (.inl rfl) rfl | exact mv_msl (.inl rfl) rfl | exact mv_mptr (.inl rfl) rfl | exact rd_move (.inl rfl)) ?_
                refine s_rd _ rfl (by first | exact rd_nilCheck (.d _) rfl rfl rfl | exact rd_nilCheck (.mptr _ _ _ _) rfl rfl rfl | exact rd_nilCheck _ rfl rfl rfl) ?_
                refine s_rd _ rfl (by first | exact fieldAddr_ptr rfl fld47_1 rfl rfl | exact fieldAddr_mptr rfl fld47_1 rfl rfl) ?_
                refine s_rd _ rfl (by first | exact load_ptr rfl lay3 rfl rfl | exact load_flat rfl lay3 rfl rfl (by first | rfl | assumption | (simp only [List.getElem?_map, Option.map_some, *]; done)) rfl | exact load_box_d rfl lay3 rfl rfl rfl | exact load_box rfl lay3 rfl rfl rfl) ?_
                refine s_rd _ rfl (cmp_int rfl rfl rfl rfl) ?_
                refine tops_nil ?_
                refine twp_norm [0, 1, 2, 3, 81] (by repeat (first | exact SubK.nil | apply sub_d rfl | apply sub_msl rfl | apply sub_mptr rfl | apply SubK.cons _ _ _ _ rfl)) (by repeat (first | exact blk_nil rfl | apply blk_flat rfl | apply blk_boxN rfl | apply blk_map rfl | apply blk_dead rfl | apply blk_hole rfl | exact NormC.nil rfl | apply nc_d rfl | apply nc_msl rfl | apply nc_mptr rfl | apply nc_fnc rfl | apply nc_mmap rfl | apply nc_ifc rfl | rfl)) ?_
                refine twp_cond _ rfl (fun h18 => ?_) (fun h18 => ?_)
                · refine twp_rseq ?_
                  refine s_rd _ rfl (mv_d (.inr rfl) rfl) ?_
                  refine tops_nil ?_
                  refine twp_norm [8] (sub_d rfl .nil) (by repeat (first | exact blk_nil rfl | apply blk_flat rfl | apply blk_boxN rfl | apply blk_map rfl | apply blk_dead rfl | apply blk_hole rfl | exact NormC.nil rfl | apply nc_d rfl | apply nc_msl rfl | apply nc_mptr rfl | apply nc_fnc rfl | apply nc_mmap rfl | apply nc_ifc rfl | rfl)) ?_
                  refine twp_ret ?_
                  refine way_thenRet ?_
                  first
                    | (have hfin2 := hfin; exact ⟨_, [0], res rfl, by decide, (fun i hi => by have e : i = 0 := Nat.lt_one_iff.1 hi; subst e; rfl), by rw [hfin]; rfl, by rw [hfin]; rfl⟩)
                    | (have hinv2 := hinv; have hfa2 := hfa; exact ⟨_, [0], res rfl, by decide, (fun i hi => by have e : i = 0 := Nat.lt_one_iff.1 hi; subst e; rfl), by rw [← hinv]; rfl, by rw [← hinv]; rfl⟩)
                    | (have hv := Ex.vl_eq e n d l; exact ⟨_, [0], res rfl, by decide, (fun i hi => by have e : i = 0 := Nat.lt_one_iff.1 hi; subst e; rfl), av_bool (by grind), by exact congrArg (fun n => [Blk.box 3 [AV.d (.int .i64 n)]]) (show _ = (e.vl n d l).2 by grind)⟩)
                · refine twp_skip ?_
                  refine way_then ?_
                  refine twp_norm [0, 1, 2, 3] (by repeat (first | exact SubK.nil | apply sub_d rfl | apply sub_msl rfl | apply sub_mptr rfl | apply SubK.cons _ _ _ _ rfl)) (by repeat (first | exact blk_nil rfl | apply blk_flat rfl | apply blk_boxN rfl | apply blk_map rfl | apply blk_dead rfl | apply blk_hole rfl | exact NormC.nil rfl | apply nc_d rfl | apply nc_msl rfl | apply nc_mptr rfl | apply nc_fnc rfl | apply nc_mmap rfl | apply nc_ifc rfl | rfl)) ?_
                  refine twp_seq ?_
                  refine twp_rseq ?_
                  have hvl : e.vl n d l = Ex.vls e.args n (d + 1) (l - 1) := by grind [Ex.vl_eq e n d l]
                  refine s_rd _ rfl (by first | exact mv_d (.inl rfl) rfl | exact mv_msl (.inl rfl) rfl | exact mv_mptr (.inl rfl) rfl | exact rd_move (.inl rfl)) ?_
                  refine s_rd _ rfl (by first | exact rd_nilCheck (.d _) rfl rfl rfl | exact rd_nilCheck (.mptr _ _ _ _) rfl rfl rfl | exact rd_nilCheck _ rfl rfl rfl) ?_
                  refine s_rd _ rfl (by first | exact fieldAddr_ptr rfl fld47_2 rfl rfl | exact fieldAddr_mptr rfl fld47_2 rfl rfl) ?_
                  refine s_rd _ rfl (by first | exact load_ptr rfl lay45 rfl rfl | exact load_flat rfl lay45 rfl rfl (by first | rfl | assumption | (simp only [List.getElem?_map, Option.map_some, *]; done)) rfl | exact load_box_d rfl lay45 rfl rfl rfl | exact load_box rfl lay45 rfl rfl rfl) ?_
                  refine s_rd _ rfl (by first | exact len_d rfl sel45 rfl (by first | exact List.length_map _ | exact Ex.encs_length _ | rfl) | exact len_msl rfl sel45 rfl | exact len_nil rfl sel45 rfl) ?_
                  refine s_rd _ rfl (mv_d (.inl rfl) rfl) ?_
                  refine tops_nil ?_
                  refine twp_norm [0, 1, 2, 3, 86, 87] (by repeat (first | exact SubK.nil | apply sub_d rfl | apply sub_msl rfl | apply sub_mptr rfl | apply SubK.cons _ _ _ _ rfl)) (by repeat (first | exact blk_nil rfl | apply blk_flat rfl | apply blk_boxN rfl | apply blk_map rfl | apply blk_dead rfl | apply blk_hole rfl | exact NormC.nil rfl | apply nc_d rfl | apply nc_msl rfl | apply nc_mptr rfl | apply nc_fnc rfl | apply nc_mmap rfl | apply nc_ifc rfl | rfl)) ?_
                  refine twp_block ?_
                  refine twp_whileK (fun i => ([(87, .d (.int .i64 ((i : Nat) : Int)))] : Fr)) (fun i => ([(0, .box 3 [.d (.int .i64 (l - 1 - (Ex.sizes (e.args.take i) : Int)))])] : List (Nat × Blk))) (fun i => i ≤ e.args.length ∧ (Ex.vls (e.args.drop i) n (d + 1) (l - 1 - (Ex.sizes (e.args.take i) : Int)) = e.vl n d l ∧ (Ex.sizes (e.args.take i) : Int) ≤ l - 1)) (fun i => e.args.length - i) [87] [0, 1, 2, 3, 86] [0] 0 (by decide) (fun i hi => by have e : i = 0 := Nat.lt_one_iff.1 hi; subst e; rfl) ⟨Nat.zero_le _, ⟨by rw [List.take_zero, List.drop_zero]; simp only [Ex.sizes]; rw [hvl]; congr 1; omega, by rw [List.take_zero]; simp only [Ex.sizes]; grind⟩⟩ (by repeat (first | exact SubK.nil | apply sub_d rfl | apply sub_msl rfl | apply sub_mptr rfl | apply SubK.cons _ _ _ _ rfl)) rfl rfl (by repeat (first | exact blk_nil rfl | apply blk_flat rfl | apply blk_boxN rfl | apply blk_map rfl | apply blk_dead rfl | apply blk_hole rfl | exact NormC.nil rfl | apply nc_d rfl | apply nc_msl rfl | apply nc_mptr rfl | apply nc_fnc rfl | apply nc_mmap rfl | apply nc_ifc rfl | rfl)) (by rw [List.take_zero]; simp only [Ex.sizes]; show [Blk.box 3 [AV.d (.int .i64 (l - 1))]] = [Blk.box 3 [AV.d (.int .i64 (l - 1 - ((0 : Nat) : Int)))]]; rw [show l - 1 - ((0 : Nat) : Int) = l - 1 by omega]) ?_
                  rintro i ⟨hok, ⟨hinv, hle⟩⟩
                  refine twp_norm [87, 0, 1, 2, 3, 86] (by repeat (first | exact SubK.nil | apply sub_d rfl | apply sub_msl rfl | apply sub_mptr rfl | apply SubK.cons _ _ _ _ rfl)) (by repeat (first | exact blk_nil rfl | apply blk_flat rfl | apply blk_boxN rfl | apply blk_map rfl | apply blk_dead rfl | apply blk_hole rfl | exact NormC.nil rfl | apply nc_d rfl | apply nc_msl rfl | apply nc_mptr rfl | apply nc_fnc rfl | apply nc_mmap rfl | apply nc_ifc rfl | rfl)) ?_
                  refine twp_rseq ?_
                  refine s_rd _ rfl (cmp_int rfl rfl rfl rfl) ?_
                  refine tops_nil ?_
                  refine twp_norm [0, 1, 2, 3, 86, 87, 88] (by repeat (first | exact SubK.nil | apply sub_d rfl | apply sub_msl rfl | apply sub_mptr rfl | apply SubK.cons _ _ _ _ rfl)) (by repeat (first | exact blk_nil rfl | apply blk_flat rfl | apply blk_boxN rfl | apply blk_map rfl | apply blk_dead rfl | apply blk_hole rfl | exact NormC.nil rfl | apply nc_d rfl | apply nc_msl rfl | apply nc_mptr rfl | apply nc_fnc rfl | apply nc_mmap rfl | apply nc_ifc rfl | rfl)) ?_
                  refine twp_seq ?_
                  refine twp_cond _ rfl (fun hlt => ?_) (fun hlt => ?_)
                  · have hlt : i < e.args.length := by simpa using hlt
                    obtain ⟨a, ha⟩ : ∃ x, (e.args)[i]? = some x := ⟨_, List.getElem?_eq_getElem (by first | exact hlt | omega | (simp; omega))⟩
                    have hlt : i < e.args.length := by simpa using hlt
                    obtain ⟨a, ha⟩ : ∃ x, (e.args)[i]? = some x := ⟨_, List.getElem?_eq_getElem (by first | exact hlt | omega | (simp; omega))⟩
                    obtain ⟨hok1, hok2, hok3, hok4⟩ := Ex.vl_ok n a (d + 1) (l - 1 - (Ex.sizes (e.args.take i) : Int)) (by omega)
                    rw [drop_cons ha] at hinv
                    simp only [Ex.vls] at hinv
                    have hsz := Ex.sizes_succ ha
                    refine twp_skip ?_
                    refine way_then ?_
                    refine twp_norm [0, 1, 2, 3, 86, 87] (by repeat (first | exact SubK.nil | apply sub_d rfl | apply sub_msl rfl | apply sub_mptr rfl | apply SubK.cons _ _ _ _ rfl)) (by repeat (first | exact blk_nil rfl | apply blk_flat rfl | apply blk_boxN rfl | apply blk_map rfl | apply blk_dead rfl | apply blk_hole rfl | exact NormC.nil rfl | apply nc_d rfl | apply nc_msl rfl | apply nc_mptr rfl | apply nc_fnc rfl | apply nc_mmap rfl | apply nc_ifc rfl | rfl)) ?_
                    refine twp_seq ?_
                    refine twp_block ?_
                    refine twp_rseq ?_
                    refine s_rd _ rfl (mv_d (.inl rfl) rfl) ?_
                    refine s_rd _ rfl (mv_d (.inr rfl) rfl) ?_
                    refine tops_nil ?_
                    refine twp_norm [0, 1, 2, 3, 9, 86, 87] (by repeat (first | exact SubK.nil | apply sub_d rfl | apply sub_msl rfl | apply sub_mptr rfl | apply SubK.cons _ _ _ _ rfl)) (by repeat (first | exact blk_nil rfl | apply blk_flat rfl | apply blk_boxN rfl | apply blk_map rfl | apply blk_dead rfl | apply blk_hole rfl | exact NormC.nil rfl | apply nc_d rfl | apply nc_msl rfl | apply nc_mptr rfl | apply nc_fnc rfl | apply nc_mmap rfl | apply nc_ifc rfl | rfl)) ?_
                    refine twp_rseq ?_
                    refine s_rd _ rfl (by first | exact mv_d (.inl rfl) rfl | exact mv_msl (.inl rfl) rfl | exact mv_mptr (.inl rfl) rfl | exact rd_move (.inl rfl)) ?_
                    refine s_rd _ rfl (by first | exact rd_nilCheck (.d _) rfl rfl rfl | exact rd_nilCheck (.mptr _ _ _ _) rfl rfl rfl | exact rd_nilCheck _ rfl rfl rfl) ?_
                    refine s_rd _ rfl (by first | exact fieldAddr_ptr rfl fld47_2 rfl rfl | exact fieldAddr_mptr rfl fld47_2 rfl rfl) ?_
                    refine s_rd _ rfl (by first | exact load_ptr rfl lay45 rfl rfl | exact load_flat rfl lay45 rfl rfl (by first | rfl | assumption | (simp only [List.getElem?_map, Option.map_some, *]; done)) rfl | exact load_box_d rfl lay45 rfl rfl rfl | exact load_box rfl lay45 rfl rfl rfl) ?_
                    refine s_rd _ rfl (mv_d (.inl rfl) rfl) ?_
                    refine s_rd _ rfl (by first | exact index_msl0 rfl sel45 rfl rfl (by first | assumption | omega | (simp; omega)) | exact index_sl rfl sel45 rfl rfl (Ex.idx_encs ha)) ?_
                    refine s_rd _ rfl (by first | exact mv_d (.inl rfl) rfl | exact mv_msl (.inl rfl) rfl | exact mv_mptr (.inl rfl) rfl | exact rd_move (.inl rfl)) ?_
                    refine s_rd _ rfl (by first | exact mv_d (.inl rfl) rfl | exact mv_msl (.inl rfl) rfl | exact mv_mptr (.inl rfl) rfl | exact rd_move (.inl rfl)) ?_
                    refine s_rd _ rfl (arith_ok rfl rfl rfl rfl (by grind)) ?_
                    refine s_rd _ rfl (by first | exact mv_d (.inl rfl) rfl | exact mv_msl (.inl rfl) rfl | exact mv_mptr (.inl rfl) rfl | exact rd_move (.inl rfl)) ?_
                    refine s_callW [0] rfl rfl rfl (by decide) rfl rfl rfl (ih a (List.mem_of_getElem? ha) _ _ (by omega) (by grind) (by omega) (by omega) (hw.arg a (List.mem_of_getElem? ha))) rfl rfl ?_
                    refine s_rd _ rfl (not_b rfl rfl rfl) ?_
                    refine tops_nil ?_
                    refine twp_norm [0, 1, 2, 3, 86, 87, 101] (by repeat (first | exact SubK.nil | apply sub_d rfl | apply sub_msl rfl | apply sub_mptr rfl | apply SubK.cons _ _ _ _ rfl)) (by repeat (first | exact blk_nil rfl | apply blk_flat rfl | apply blk_boxN rfl | apply blk_map rfl | apply blk_dead rfl | apply blk_hole rfl | exact NormC.nil rfl | apply nc_d rfl | apply nc_msl rfl | apply nc_mptr rfl | apply nc_fnc rfl | apply nc_mmap rfl | apply nc_ifc rfl | rfl)) ?_
                    refine twp_cond _ rfl (fun hfa => ?_) (fun hfa => ?_)
                    · have hfa : (a.vl n (d + 1) (l - 1 - (Ex.sizes (e.args.take i) : Int))).1 = false := by simpa using hfa
                      rw [hfa, if_neg Bool.false_ne_true] at hinv
                      refine twp_rseq ?_
                      refine s_rd _ rfl (mv_d (.inr rfl) rfl) ?_
                      refine tops_nil ?_
                      refine twp_norm [8] (sub_d rfl .nil) (by repeat (first | exact blk_nil rfl | apply blk_flat rfl | apply blk_boxN rfl | apply blk_map rfl | apply blk_dead rfl | apply blk_hole rfl | exact NormC.nil rfl | apply nc_d rfl | apply nc_msl rfl | apply nc_mptr rfl | apply nc_fnc rfl | apply nc_mmap rfl | apply nc_ifc rfl | rfl)) ?_
                      refine twp_ret ?_
                      refine way_blockRet ?_
                      refine way_thenRet ?_
                      refine way_thenRet ?_
                      refine way_blockRet ?_
                      refine way_thenRet ?_
                      first
                        | (have hfin2 := hfin; exact ⟨_, [0], res rfl, by decide, (fun i hi => by have e : i = 0 := Nat.lt_one_iff.1 hi; subst e; rfl), by rw [hfin]; rfl, by rw [hfin]; rfl⟩)
                        | (have hinv2 := hinv; have hfa2 := hfa; exact ⟨_, [0], res rfl, by decide, (fun i hi => by have e : i = 0 := Nat.lt_one_iff.1 hi; subst e; rfl), by rw [← hinv]; rfl, by rw [← hinv]; rfl⟩)
                        | (have hv := Ex.vl_eq e n d l; exact ⟨_, [0], res rfl, by decide, (fun i hi => by have e : i = 0 := Nat.lt_one_iff.1 hi; subst e; rfl), av_bool (by grind), by exact congrArg (fun n => [Blk.box 3 [AV.d (.int .i64 n)]]) (show _ = (e.vl n d l).2 by grind)⟩)
                    · have hfa : (a.vl n (d + 1) (l - 1 - (Ex.sizes (e.args.take i) : Int))).1 = true := by simpa using hfa
                      rw [hfa, if_pos rfl, hok2 hfa] at hinv
                      have hnext : Ex.vls (e.args.drop (i + 1)) n (d + 1) (l - 1 - ((Ex.sizes (e.args.take i) + a.size : Nat) : Int)) = e.vl n d l := by rw [← hinv]; congr 1; omega
                      have hsb := (hok1.1 hfa).2.1
                      refine twp_skip ?_
                      refine way_block ?_
                      refine way_then ?_
                      refine twp_norm [0, 1, 2, 3, 86, 87] (by repeat (first | exact SubK.nil | apply sub_d rfl | apply sub_msl rfl | apply sub_mptr rfl | apply SubK.cons _ _ _ _ rfl)) (by repeat (first | exact blk_nil rfl | apply blk_flat rfl | apply blk_boxN rfl | apply blk_map rfl | apply blk_dead rfl | apply blk_hole rfl | exact NormC.nil rfl | apply nc_d rfl | apply nc_msl rfl | apply nc_mptr rfl | apply nc_fnc rfl | apply nc_mmap rfl | apply nc_ifc rfl | rfl)) ?_
                      refine twp_region ?_
                      refine s_rd _ rfl (arith_ok rfl rfl rfl rfl (by omega)) ?_
                      refine s_rd _ rfl (mv_d (.inl rfl) rfl) ?_
                      refine tops_nil ?_
                      refine way_then ?_
                      exact ⟨(i + 1), [0], by decide, (fun i hi => by have e : i = 0 := Nat.lt_one_iff.1 hi; subst e; rfl), ⟨by omega, ⟨by rw [hsz]; exact hnext, by rw [hsz]; omega⟩⟩, (by omega), (by rw [hsz, show l - 1 - ((Ex.sizes (e.args.take i) + a.size : Nat) : Int) = (a.vl n (d + 1) (l - 1 - (Ex.sizes (e.args.take i) : Int))).2 by rw [hok2 hfa]; omega]; rfl)⟩
                  · have hge : ¬ i < e.args.length := by simpa using hlt
                    have hi : i = e.args.length := by omega
                    have hge : ¬ i < e.args.length := by simpa using hlt
                    have hi : i = e.args.length := by omega
                    have hfin : e.vl n d l = (true, l - 1 - (Ex.sizes (e.args.take i) : Int)) := by rw [← hinv, drop_nil (by omega)]; simp [Ex.vls]
                    refine twp_exit ?_
                    refine way_thenExit ?_
                    refine way_thenExit ?_
                    refine way_here ?_
                    refine way_then ?_
                    refine twp_norm [] .nil (by repeat (first | exact blk_nil rfl | apply blk_flat rfl | apply blk_boxN rfl | apply blk_map rfl | apply blk_dead rfl | apply blk_hole rfl | exact NormC.nil rfl | apply nc_d rfl | apply nc_msl rfl | apply nc_mptr rfl | apply nc_fnc rfl | apply nc_mmap rfl | apply nc_ifc rfl | rfl)) ?_
                    refine twp_rseq ?_
                    refine s_rd _ rfl (mv_d (.inr rfl) rfl) ?_
                    refine tops_nil ?_
                    refine twp_norm [8] (sub_d rfl .nil) (by repeat (first | exact blk_nil rfl | apply blk_flat rfl | apply blk_boxN rfl | apply blk_map rfl | apply blk_dead rfl | apply blk_hole rfl | exact NormC.nil rfl | apply nc_d rfl | apply nc_msl rfl | apply nc_mptr rfl | apply nc_fnc rfl | apply nc_mmap rfl | apply nc_ifc rfl | rfl)) ?_
                    refine twp_ret ?_
                    first
                      | (have hfin2 := hfin; exact ⟨_, [0], res rfl, by decide, (fun i hi => by have e : i = 0 := Nat.lt_one_iff.1 hi; subst e; rfl), by rw [hfin]; rfl, by rw [hfin]; rfl⟩)
                      | (have hinv2 := hinv; have hfa2 := hfa; exact ⟨_, [0], res rfl, by decide, (fun i hi => by have e : i = 0 := Nat.lt_one_iff.1 hi; subst e; rfl), by rw [← hinv]; rfl, by rw [← hinv]; rfl⟩)
                      | (have hv := Ex.vl_eq e n d l; exact ⟨_, [0], res rfl, by decide, (fun i hi => by have e : i = 0 := Nat.lt_one_iff.1 hi; subst e; rfl), av_bool (by grind), by exact congrArg (fun n => [Blk.box 3 [AV.d (.int .i64 n)]]) (show _ = (e.vl n d l).2 by grind)⟩)
              · refine twp_region ?_
                refine s_rd _ rfl (cmp_int rfl rfl rfl rfl) ?_
                refine s_rd _ rfl (mv_d (.inr rfl) rfl) ?_
                refine tops_nil ?_
                refine way_then ?_
                refine twp_norm [0, 1, 2, 3, 74] (by repeat (first | exact SubK.nil | apply sub_d rfl | apply sub_msl rfl | apply sub_mptr rfl | apply SubK.cons _ _ _ _ rfl)) (by repeat (first | exact blk_nil rfl | apply blk_flat rfl | apply blk_boxN rfl | apply blk_map rfl | apply blk_dead rfl | apply blk_hole rfl | exact NormC.nil rfl | apply nc_d rfl | apply nc_msl rfl | apply nc_mptr rfl | apply nc_fnc rfl | apply nc_mmap rfl | apply nc_ifc rfl | rfl)) ?_
                refine twp_cond _ rfl (fun h21 => ?_) (fun h21 => ?_)
                · refine twp_skip ?_
                  refine way_block ?_
                  refine way_then ?_
                  refine twp_norm [0, 1, 2, 3] (by repeat (first | exact SubK.nil | apply sub_d rfl | apply sub_msl rfl | apply sub_mptr rfl | apply SubK.cons _ _ _ _ rfl)) (by repeat (first | exact blk_nil rfl | apply blk_flat rfl | apply blk_boxN rfl | apply blk_map rfl | apply blk_dead rfl | apply blk_hole rfl | exact NormC.nil rfl | apply nc_d rfl | apply nc_msl rfl | apply nc_mptr rfl | apply nc_fnc rfl | apply nc_mmap rfl | apply nc_ifc rfl | rfl)) ?_
                  refine twp_seq ?_
                  refine twp_rseq ?_
                  refine s_rd _ rfl (by first | exact mv_d (.inl rfl) rfl | exact mv_msl (.inl rfl) rfl | exact mv_mptr (.inl rfl) rfl | exact rd_move (.inl rfl)) ?_
                  refine s_rd _ rfl (by first | exact rd_nilCheck (.d _) rfl rfl rfl | exact rd_nilCheck (.mptr _ _ _ _) rfl rfl rfl | exact rd_nilCheck _ rfl rfl rfl) ?_
                  refine s_rd _ rfl (by first | exact fieldAddr_ptr rfl fld47_1 rfl rfl | exact fieldAddr_mptr rfl fld47_1 rfl rfl) ?_
                  refine s_rd _ rfl (by first | exact load_ptr rfl lay3 rfl rfl | exact load_flat rfl lay3 rfl rfl (by first | rfl | assumption | (simp only [List.getElem?_map, Option.map_some, *]; done)) rfl | exact load_box_d rfl lay3 rfl rfl rfl | exact load_box rfl lay3 rfl rfl rfl) ?_
                  refine s_rd _ rfl (cmp_int rfl rfl rfl rfl) ?_
                  refine tops_nil ?_
                  refine twp_norm [0, 1, 2, 3, 81] (by repeat (first | exact SubK.nil | apply sub_d rfl | apply sub_msl rfl | apply sub_mptr rfl | apply SubK.cons _ _ _ _ rfl)) (by repeat (first | exact blk_nil rfl | apply blk_flat rfl | apply blk_boxN rfl | apply blk_map rfl | apply blk_dead rfl | apply blk_hole rfl | exact NormC.nil rfl | apply nc_d rfl | apply nc_msl rfl | apply nc_mptr rfl | apply nc_fnc rfl | apply nc_mmap rfl | apply nc_ifc rfl | rfl)) ?_
                  refine twp_cond _ rfl (fun h22 => ?_) (fun h22 => ?_)
                  · refine twp_rseq ?_
                    refine s_rd _ rfl (mv_d (.inr rfl) rfl) ?_
                    refine tops_nil ?_
                    refine twp_norm [8] (sub_d rfl .nil) (by repeat (first | exact blk_nil rfl | apply blk_flat rfl | apply blk_boxN rfl | apply blk_map rfl | apply blk_dead rfl | apply blk_hole rfl | exact NormC.nil rfl | apply nc_d rfl | apply nc_msl rfl | apply nc_mptr rfl | apply nc_fnc rfl | apply nc_mmap rfl | apply nc_ifc rfl | rfl)) ?_
                    refine twp_ret ?_
                    refine way_thenRet ?_
                    first
                      | (have hfin2 := hfin; exact ⟨_, [0], res rfl, by decide, (fun i hi => by have e : i = 0 := Nat.lt_one_iff.1 hi; subst e; rfl), by rw [hfin]; rfl, by rw [hfin]; rfl⟩)
                      | (have hinv2 := hinv; have hfa2 := hfa; exact ⟨_, [0], res rfl, by decide, (fun i hi => by have e : i = 0 := Nat.lt_one_iff.1 hi; subst e; rfl), by rw [← hinv]; rfl, by rw [← hinv]; rfl⟩)
                      | (have hv := Ex.vl_eq e n d l; exact ⟨_, [0], res rfl, by decide, (fun i hi => by have e : i = 0 := Nat.lt_one_iff.1 hi; subst e; rfl), av_bool (by grind), by exact congrArg (fun n => [Blk.box 3 [AV.d (.int .i64 n)]]) (show _ = (e.vl n d l).2 by grind)⟩)
                  · refine twp_skip ?_
                    refine way_then ?_
                    refine twp_norm [0, 1, 2, 3] (by repeat (first | exact SubK.nil | apply sub_d rfl | apply sub_msl rfl | apply sub_mptr rfl | apply SubK.cons _ _ _ _ rfl)) (by repeat (first | exact blk_nil rfl | apply blk_flat rfl | apply blk_boxN rfl | apply blk_map rfl | apply blk_dead rfl | apply blk_hole rfl | exact NormC.nil rfl | apply nc_d rfl | apply nc_msl rfl | apply nc_mptr rfl | apply nc_fnc rfl | apply nc_mmap rfl | apply nc_ifc rfl | rfl)) ?_
                    refine twp_seq ?_
                    refine twp_rseq ?_
                    have hvl : e.vl n d l = Ex.vls e.args n (d + 1) (l - 1) := by grind [Ex.vl_eq e n d l]
                    refine s_rd _ rfl (by first | exact mv_d (.inl rfl) rfl | exact mv_msl (.inl rfl) rfl | exact mv_mptr (.inl rfl) rfl | exact rd_move (.inl rfl)) ?_
                    refine s_rd _ rfl (by first | exact rd_nilCheck (.d _) rfl rfl rfl | exact rd_nilCheck (.mptr _ _ _ _) rfl rfl rfl | exact rd_nilCheck _ rfl rfl rfl) ?_
                    refine s_rd _ rfl (by first | exact fieldAddr_ptr rfl fld47_2 rfl rfl | exact fieldAddr_mptr rfl fld47_2 rfl rfl) ?_
                    refine s_rd _ rfl (by first | exact load_ptr rfl lay45 rfl rfl | exact load_flat rfl lay45 rfl rfl (by first | rfl | assumption | (simp only [List.getElem?_map, Option.map_some, *]; done)) rfl | exact load_box_d rfl lay45 rfl rfl rfl | exact load_box rfl lay45 rfl rfl rfl) ?_
                    refine s_rd _ rfl (by first | exact len_d rfl sel45 rfl (by first | exact List.length_map _ | exact Ex.encs_length _ | rfl) | exact len_msl rfl sel45 rfl | exact len_nil rfl sel45 rfl) ?_
                    refine s_rd _ rfl (mv_d (.inl rfl) rfl) ?_
                    refine tops_nil ?_
                    refine twp_norm [0, 1, 2, 3, 86, 87] (by repeat (first | exact SubK.nil | apply sub_d rfl | apply sub_msl rfl | apply sub_mptr rfl | apply SubK.cons _ _ _ _ rfl)) (by repeat (first | exact blk_nil rfl | apply blk_flat rfl | apply blk_boxN rfl | apply blk_map rfl | apply blk_dead rfl | apply blk_hole rfl | exact NormC.nil rfl | apply nc_d rfl | apply nc_msl rfl | apply nc_mptr rfl | apply nc_fnc rfl | apply nc_mmap rfl | apply nc_ifc rfl | rfl)) ?_
                    refine twp_block ?_
                    refine twp_whileK (fun i => ([(87, .d (.int .i64 ((i : Nat) : Int)))] : Fr)) (fun i => ([(0, .box 3 [.d (.int .i64 (l - 1 - (Ex.sizes (e.args.take i) : Int)))])] : List (Nat × Blk))) (fun i => i ≤ e.args.length ∧ (Ex.vls (e.args.drop i) n (d + 1) (l - 1 - (Ex.sizes (e.args.take i) : Int)) = e.vl n d l ∧ (Ex.sizes (e.args.take i) : Int) ≤ l - 1)) (fun i => e.args.length - i) [87] [0, 1, 2, 3, 86] [0] 0 (by decide) (fun i hi => by have e : i = 0 := Nat.lt_one_iff.1 hi; subst e; rfl) ⟨Nat.zero_le _, ⟨by rw [List.take_zero, List.drop_zero]; simp only [Ex.sizes]; rw [hvl]; congr 1; omega, by rw [List.take_zero]; simp only [Ex.sizes]; grind⟩⟩ (by repeat (first | exact SubK.nil | apply sub_d rfl | apply sub_msl rfl | apply sub_mptr rfl | apply SubK.cons _ _ _ _ rfl)) rfl rfl (by repeat (first | exact blk_nil rfl | apply blk_flat rfl | apply blk_boxN rfl | apply blk_map rfl | apply blk_dead rfl | apply blk_hole rfl | exact NormC.nil rfl | apply nc_d rfl | apply nc_msl rfl | apply nc_mptr rfl | apply nc_fnc rfl | apply nc_mmap rfl | apply nc_ifc rfl | rfl)) (by rw [List.take_zero]; simp only [Ex.sizes]; show [Blk.box 3 [AV.d (.int .i64 (l - 1))]] = [Blk.box 3 [AV.d (.int .i64 (l - 1 - ((0 : Nat) : Int)))]]; rw [show l - 1 - ((0 : Nat) : Int) = l - 1 by omega]) ?_
                    rintro i ⟨hok, ⟨hinv, hle⟩⟩
                    refine twp_norm [87, 0, 1, 2, 3, 86] (by repeat (first | exact SubK.nil | apply sub_d rfl | apply sub_msl rfl | apply sub_mptr rfl | apply SubK.cons _ _ _ _ rfl)) (by repeat (first | exact blk_nil rfl | apply blk_flat rfl | apply blk_boxN rfl | apply blk_map rfl | apply blk_dead rfl | apply blk_hole rfl | exact NormC.nil rfl | apply nc_d rfl | apply nc_msl rfl | apply nc_mptr rfl | apply nc_fnc rfl | apply nc_mmap rfl | apply nc_ifc rfl | rfl)) ?_
                    refine twp_rseq ?_
                    refine s_rd _ rfl (cmp_int rfl rfl rfl rfl) ?_
                    refine tops_nil ?_
                    refine twp_norm [0, 1, 2, 3, 86, 87, 88] (by repeat (first | exact SubK.nil | apply sub_d rfl | apply sub_msl rfl | apply sub_mptr rfl | apply SubK.cons _ _ _ _ rfl)) (by repeat (first | exact blk_nil rfl | apply blk_flat rfl | apply blk_boxN rfl | apply blk_map rfl | apply blk_dead rfl | apply blk_hole rfl | exact NormC.nil rfl | apply nc_d rfl | apply nc_msl rfl | apply nc_mptr rfl | apply nc_fnc rfl | apply nc_mmap rfl | apply nc_ifc rfl | rfl)) ?_
                    refine twp_seq ?_
                    refine twp_cond _ rfl (fun hlt => ?_) (fun hlt => ?_)
                    · have hlt : i < e.args.length := by simpa using hlt
                      obtain ⟨a, ha⟩ : ∃ x, (e.args)[i]? = some x := ⟨_, List.getElem?_eq_getElem (by first | exact hlt | omega | (simp; omega))⟩
                      have hlt : i < e.args.length := by simpa using hlt
                      obtain ⟨a, ha⟩ : ∃ x, (e.args)[i]? = some x := ⟨_, List.getElem?_eq_getElem (by first | exact hlt | omega | (simp; omega))⟩
                      have hlt : i < e.args.length := by simpa using hlt
                      obtain ⟨a, ha⟩ : ∃ x, (e.args)[i]? = some x := ⟨_, List.getElem?_eq_getElem (by first | exact hlt | omega | (simp; omega))⟩
                      obtain ⟨hok1, hok2, hok3, hok4⟩ := Ex.vl_ok n a (d + 1) (l - 1 - (Ex.sizes (e.args.take i) : Int)) (by omega)
                      rw [drop_cons ha] at hinv
                      simp only [Ex.vls] at hinv
                      have hsz := Ex.sizes_succ ha
                      refine twp_skip ?_
                      refine way_then ?_
                      refine twp_norm [0, 1, 2, 3, 86, 87] (by repeat (first | exact SubK.nil | apply sub_d rfl | apply sub_msl rfl | apply sub_mptr rfl | apply SubK.cons _ _ _ _ rfl)) (by repeat (first | exact blk_nil rfl | apply blk_flat rfl | apply blk_boxN rfl | apply blk_map rfl | apply blk_dead rfl | apply blk_hole rfl | exact NormC.nil rfl | apply nc_d rfl | apply nc_msl rfl | apply nc_mptr rfl | apply nc_fnc rfl | apply nc_mmap rfl | apply nc_ifc rfl | rfl)) ?_
                      refine twp_seq ?_
                      refine twp_block ?_
                      refine twp_rseq ?_
                      refine s_rd _ rfl (mv_d (.inl rfl) rfl) ?_
                      refine s_rd _ rfl (mv_d (.inr rfl) rfl) ?_
                      refine tops_nil ?_
                      refine twp_norm [0, 1, 2, 3, 9, 86, 87] (by repeat (first | exact SubK.nil | apply sub_d rfl | apply sub_msl rfl | apply sub_mptr rfl | apply SubK.cons _ _ _ _ rfl)) (by repeat (first | exact blk_nil rfl | apply blk_flat rfl | apply blk_boxN rfl | apply blk_map rfl | apply blk_dead rfl | apply blk_hole rfl | exact NormC.nil rfl | apply nc_d rfl | apply nc_msl rfl | apply nc_mptr rfl | apply nc_fnc rfl | apply nc_mmap rfl | apply nc_ifc rfl | rfl)) ?_
                      refine twp_rseq ?_
                      refine s_rd _ rfl (by first | exact mv_d (.inl rfl) rfl | exact mv_msl (.inl rfl) rfl | exact mv_mptr (.inl rfl) rfl | exact rd_move (.inl rfl)) ?_
                      refine s_rd _ rfl (by first | exact rd_nilCheck (.d _) rfl rfl rfl | exact rd_nilCheck (.mptr _ _ _ _) rfl rfl rfl | exact rd_nilCheck _ rfl rfl rfl) ?_
                      refine s_rd _ rfl (by first | exact fieldAddr_ptr rfl fld47_2 rfl rfl | exact fieldAddr_mptr rfl fld47_2 rfl rfl) ?_
                      refine s_rd _ rfl (by first | exact load_ptr rfl lay45 rfl rfl | exact load_flat rfl lay45 rfl rfl (by first | rfl | assumption | (simp only [List.getElem?_map, Option.map_some, *]; done)) rfl | exact load_box_d rfl lay45 rfl rfl rfl | exact load_box rfl lay45 rfl rfl rfl) ?_
                      refine s_rd _ rfl (mv_d (.inl rfl) rfl) ?_
                      refine s_rd _ rfl (by first | exact index_msl0 rfl sel45 rfl rfl (by first | assumption | omega | (simp; omega)) | exact index_sl rfl sel45 rfl rfl (Ex.idx_encs ha)) ?_
                      refine s_rd _ rfl (by first | exact mv_d (.inl rfl) rfl | exact mv_msl (.inl rfl) rfl | exact mv_mptr (.inl rfl) rfl | exact rd_move (.inl rfl)) ?_
                      refine s_rd _ rfl (by first | exact mv_d (.inl rfl) rfl | exact mv_msl (.inl rfl) rfl | exact mv_mptr (.inl rfl) rfl | exact rd_move (.inl rfl)) ?_
                      refine s_rd _ rfl (arith_ok rfl rfl rfl rfl (by grind)) ?_
                      refine s_rd _ rfl (by first | exact mv_d (.inl rfl) rfl | exact mv_msl (.inl rfl) rfl | exact mv_mptr (.inl rfl) rfl | exact rd_move (.inl rfl)) ?_
                      refine s_callW [0] rfl rfl rfl (by decide) rfl rfl rfl (ih a (List.mem_of_getElem? ha) _ _ (by omega) (by grind) (by omega) (by omega) (hw.arg a (List.mem_of_getElem? ha))) rfl rfl ?_
                      refine s_rd _ rfl (not_b rfl rfl rfl) ?_
                      refine tops_nil ?_
                      refine twp_norm [0, 1, 2, 3, 86, 87, 101] (by repeat (first | exact SubK.nil | apply sub_d rfl | apply sub_msl rfl | apply sub_mptr rfl | apply SubK.cons _ _ _ _ rfl)) (by repeat (first | exact blk_nil rfl | apply blk_flat rfl | apply blk_boxN rfl | apply blk_map rfl | apply blk_dead rfl | apply blk_hole rfl | exact NormC.nil rfl | apply nc_d rfl | apply nc_msl rfl | apply nc_mptr rfl | apply nc_fnc rfl | apply nc_mmap rfl | apply nc_ifc rfl | rfl)) ?_
                      refine twp_cond _ rfl (fun hfa => ?_) (fun hfa => ?_)
                      · have hfa : (a.vl n (d + 1) (l - 1 - (Ex.sizes (e.args.take i) : Int))).1 = false := by simpa using hfa
                        rw [hfa, if_neg Bool.false_ne_true] at hinv
                        refine twp_rseq ?_
                        refine s_rd _ rfl (mv_d (.inr rfl) rfl) ?_
                        refine tops_nil ?_
                        refine twp_norm [8] (sub_d rfl .nil) (by repeat (first | exact blk_nil rfl | apply blk_flat rfl | apply blk_boxN rfl | apply blk_map rfl | apply blk_dead rfl | apply blk_hole rfl | exact NormC.nil rfl | apply nc_d rfl | apply nc_msl rfl | apply nc_mptr rfl | apply nc_fnc rfl | apply nc_mmap rfl | apply nc_ifc rfl | rfl)) ?_
                        refine twp_ret ?_
                        refine way_blockRet ?_
                        refine way_thenRet ?_
                        refine way_thenRet ?_
                        refine way_blockRet ?_
                        refine way_thenRet ?_
                        first
                          | (have hfin2 := hfin; exact ⟨_, [0], res rfl, by decide, (fun i hi => by have e : i = 0 := Nat.lt_one_iff.1 hi; subst e; rfl), by rw [hfin]; rfl, by rw [hfin]; rfl⟩)
                          | (have hinv2 := hinv; have hfa2 := hfa; exact ⟨_, [0], res rfl, by decide, (fun i hi => by have e : i = 0 := Nat.lt_one_iff.1 hi; subst e; rfl), by rw [← hinv]; rfl, by rw [← hinv]; rfl⟩)
                          | (have hv := Ex.vl_eq e n d l; exact ⟨_, [0], res rfl, by decide, (fun i hi => by have e : i = 0 := Nat.lt_one_iff.1 hi; subst e; rfl), av_bool (by grind), by exact congrArg (fun n => [Blk.box 3 [AV.d (.int .i64 n)]]) (show _ = (e.vl n d l).2 by grind)⟩)
                      · have hfa : (a.vl n (d + 1) (l - 1 - (Ex.sizes (e.args.take i) : Int))).1 = true := by simpa using hfa
                        rw [hfa, if_pos rfl, hok2 hfa] at hinv
                        have hnext : Ex.vls (e.args.drop (i + 1)) n (d + 1) (l - 1 - ((Ex.sizes (e.args.take i) + a.size : Nat) : Int)) = e.vl n d l := by rw [← hinv]; congr 1; omega
                        have hsb := (hok1.1 hfa).2.1
                        refine twp_skip ?_
                        refine way_block ?_
                        refine way_then ?_
                        refine twp_norm [0, 1, 2, 3, 86, 87] (by repeat (first | exact SubK.nil | apply sub_d rfl | apply sub_msl rfl | apply sub_mptr rfl | apply SubK.cons _ _ _ _ rfl)) (by repeat (first | exact blk_nil rfl | apply blk_flat rfl | apply blk_boxN rfl | apply blk_map rfl | apply blk_dead rfl | apply blk_hole rfl | exact NormC.nil rfl | apply nc_d rfl | apply nc_msl rfl | apply nc_mptr rfl | apply nc_fnc rfl | apply nc_mmap rfl | apply nc_ifc rfl | rfl)) ?_
                        refine twp_region ?_
                        refine s_rd _ rfl (arith_ok rfl rfl rfl rfl (by omega)) ?_
                        refine s_rd _ rfl (mv_d (.inl rfl) rfl) ?_
                        refine tops_nil ?_
                        refine way_then ?_
                        exact ⟨(i + 1), [0], by decide, (fun i hi => by have e : i = 0 := Nat.lt_one_iff.1 hi; subst e; rfl), ⟨by omega, ⟨by rw [hsz]; exact hnext, by rw [hsz]; omega⟩⟩, (by omega), (by rw [hsz, show l - 1 - ((Ex.sizes (e.args.take i) + a.size : Nat) : Int) = (a.vl n (d + 1) (l - 1 - (Ex.sizes (e.args.take i) : Int))).2 by rw [hok2 hfa]; omega]; rfl)⟩
                    · have hge : ¬ i < e.args.length := by simpa using hlt
                      have hi : i = e.args.length := by omega
                      have hge : ¬ i < e.args.length := by simpa using hlt
                      have hi : i = e.args.length := by omega
                      have hge : ¬ i < e.args.length := by simpa using hlt
                      have hi : i = e.args.length := by omega
                      have hfin : e.vl n d l = (true, l - 1 - (Ex.sizes (e.args.take i) : Int)) := by rw [← hinv, drop_nil (by omega)]; simp [Ex.vls]
                      refine twp_exit ?_
                      refine way_thenExit ?_
                      refine way_thenExit ?_
                      refine way_here ?_
                      refine way_then ?_
                      refine twp_norm [] .nil (by repeat (first | exact blk_nil rfl | apply blk_flat rfl | apply blk_boxN rfl | apply blk_map rfl | apply blk_dead rfl | apply blk_hole rfl | exact NormC.nil rfl | apply nc_d rfl | apply nc_msl rfl | apply nc_mptr rfl | apply nc_fnc rfl | apply nc_mmap rfl | apply nc_ifc rfl | rfl)) ?_
                      refine twp_rseq ?_
                      refine s_rd _ rfl (mv_d (.inr rfl) rfl) ?_
                      refine tops_nil ?_
                      refine twp_norm [8] (sub_d rfl .nil) (by repeat (first | exact blk_nil rfl | apply blk_flat rfl | apply blk_boxN rfl | apply blk_map rfl | apply blk_dead rfl | apply blk_hole rfl | exact NormC.nil rfl | apply nc_d rfl | apply nc_msl rfl | apply nc_mptr rfl | apply nc_fnc rfl | apply nc_mmap rfl | apply nc_ifc rfl | rfl)) ?_
                      refine twp_ret ?_
                      first
                        | (have hfin2 := hfin; exact ⟨_, [0], res rfl, by decide, (fun i hi => by have e : i = 0 := Nat.lt_one_iff.1 hi; subst e; rfl), by rw [hfin]; rfl, by rw [hfin]; rfl⟩)
                        | (have hinv2 := hinv; have hfa2 := hfa; exact ⟨_, [0], res rfl, by decide, (fun i hi => by have e : i = 0 := Nat.lt_one_iff.1 hi; subst e; rfl), by rw [← hinv]; rfl, by rw [← hinv]; rfl⟩)
                        | (have hv := Ex.vl_eq e n d l; exact ⟨_, [0], res rfl, by decide, (fun i hi => by have e : i = 0 := Nat.lt_one_iff.1 hi; subst e; rfl), av_bool (by grind), by exact congrArg (fun n => [Blk.box 3 [AV.d (.int .i64 n)]]) (show _ = (e.vl n d l).2 by grind)⟩)
                · refine twp_rseq ?_
                  refine s_rd _ rfl (mv_d (.inr rfl) rfl) ?_
                  refine tops_nil ?_
                  refine twp_norm [8] (sub_d rfl .nil) (by repeat (first | exact blk_nil rfl | apply blk_flat rfl | apply blk_boxN rfl | apply blk_map rfl | apply blk_dead rfl | apply blk_hole rfl | exact NormC.nil rfl | apply nc_d rfl | apply nc_msl rfl | apply nc_mptr rfl | apply nc_fnc rfl | apply nc_mmap rfl | apply nc_ifc rfl | rfl)) ?_
                  refine twp_ret ?_
                  refine way_blockRet ?_
                  refine way_thenRet ?_
                  first
                    | (have hfin2 := hfin; exact ⟨_, [0], res rfl, by decide, (fun i hi => by have e : i = 0 := Nat.lt_one_iff.1 hi; subst e; rfl), by rw [hfin]; rfl, by rw [hfin]; rfl⟩)
                    | (have hinv2 := hinv; have hfa2 := hfa; exact ⟨_, [0], res rfl, by decide, (fun i hi => by have e : i = 0 := Nat.lt_one_iff.1 hi; subst e; rfl), by rw [← hinv]; rfl, by rw [← hinv]; rfl⟩)
                    | (have hv := Ex.vl_eq e n d l; exact ⟨_, [0], res rfl, by decide, (fun i hi => by have e : i = 0 := Nat.lt_one_iff.1 hi; subst e; rfl), av_bool (by grind), by exact congrArg (fun n => [Blk.box 3 [AV.d (.int .i64 n)]]) (show _ = (e.vl n d l).2 by grind)⟩)

theorem vl_w (n : Int) : ∀ (e : Ex) (d l : Int), 1 ≤ d → d ≤ 13 → 0 ≤ l → l ≤ 20000 → e.Wf → Ret Try.prog 42 [.box 3 [.d (.int .i64 l)]] (fun _ => false) [.d (.ptr e.enc 0), .d (.int .i64 n), .d (.int .i64 d), .mptr 0 0 0 0] (.d (.bool (e.vl n d l).1)) [.box 3 [.d (.int .i64 (e.vl n d l).2)]] :=
  Ex.ind fun e ih d l h1 h2 h3 h4 hw => vl_step e n d l h1 h2 h3 h4 hw ih

theorem callB37 : callB Try.prog 37 = true := by kernel_rfl

theorem zero3 : (Try.prog.info? 3).bind (·.zero) = Option.some (Go.Value.int Go.IntKind.i64 0) := by kernel_rfl

theorem validP_step (e : Ex) (n : Int) (hw : e.Wf) : Ret Try.prog 37 [] (fun _ => false) ([e.enc, .int .i64 n].map .d) (.d (.bool (e.valid n))) [] := by
  refine ret_body callB37 Try.func37 rfl Try.ntmps37 rfl rfl (fun wX gX => ?_)
  refine twp_norm [0, 1] (sub_d rfl (sub_d rfl .nil)) (blk_nil rfl) ?_
  refine twp_rseq ?_
  refine s_boxA rfl rfl rfl ?_
  refine s_eq 2 (.mptr 0 0 0 0) rfl rfl ?_
  refine s_rd _ rfl (mv_d (.inr rfl) rfl) ?_
  refine tops_nil ?_
  refine twp_norm [1, 2] (sub_d rfl (sub_mptr rfl .nil)) (blk_boxN rfl (by repeat (first | exact NormC.nil rfl | apply nc_d rfl | apply nc_msl rfl | apply nc_mptr rfl | apply nc_fnc rfl)) (blk_nil rfl)) ?_
  refine twp_rseq ?_
  refine s_alloc rfl zero3 rfl rfl ?_
  refine s_eq 5 (.mptr 1 0 0 0) rfl rfl ?_
  refine s_store_box lay3 rfl rfl rfl rfl rfl (Nat.le_of_ble_eq_true rfl) rfl ?_
  refine tops_nil ?_
  refine twp_norm [1, 2, 5] (sub_d rfl (sub_mptr rfl (sub_mptr rfl .nil))) (blk_box rfl (blk_boxN rfl (by repeat (first | exact NormC.nil rfl | apply nc_d rfl | apply nc_msl rfl | apply nc_mptr rfl | apply nc_fnc rfl)) (blk_nil rfl))) ?_
  refine twp_rseq ?_
  refine tops_freeze' 0 (Nat.zero_le _) rfl (fun j hj => absurd hj (Nat.not_lt_zero j)) rfl ?_
  refine s_rd _ rfl (mv_d (.inl rfl) rfl) ?_
  refine s_callW [1] rfl rfl rfl (by decide) rfl rfl rfl (vl_w n e 1 20000 (by omega) (by omega) (by omega) (by omega) hw) rfl rfl ?_
  refine s_rd _ rfl (by first | exact mv_d (.inr rfl) rfl | exact mv_msl (.inr rfl) rfl | exact mv_mptr (.inr rfl) rfl | exact rd_move (.inr rfl)) ?_
  refine tops_nil ?_
  refine twp_norm [4] (by repeat (first | exact SubK.nil | apply sub_d rfl | apply sub_msl rfl | apply sub_mptr rfl | apply SubK.cons _ _ _ _ rfl)) (blk_dead rfl (blk_boxN rfl (by repeat (first | exact NormC.nil rfl | apply nc_d rfl | apply nc_msl rfl | apply nc_mptr rfl | apply nc_fnc rfl)) (blk_nil rfl))) ?_
  refine twp_ret ?_
  exact Ends.plainB _ rfl (Ex.valid_vl e n)

theorem validP_n (e : Ex) (n : Int) (hw : e.Wf) : RetN Try.prog 37 [e.enc, .int .i64 n] (.bool (e.valid n)) := .unit (validP_step e n hw) rfl

theorem callB28 : callB Try.prog 28 = true := by kernel_rfl

theorem fld50_0 : fld Try.prog 50 0 = some 0 := by kernel_rfl

theorem fld50_2 : fld Try.prog 50 2 = some 2 := by kernel_rfl

theorem fld50_1 : fld Try.prog 50 1 = some 1 := by kernel_rfl

theorem fld25_1 : fld Try.prog 25 1 = some 1 := by kernel_rfl

theorem fld25_0 : fld Try.prog 25 0 = some 0 := by kernel_rfl

theorem lay22 : lay Try.prog 22 = some (false, 1) := by kernel_rfl

theorem sel22 : sel Try.prog 22 = some (9, 1, 16) := by kernel_rfl

theorem fld50_3 : fld Try.prog 50 3 = some 3 := by kernel_rfl

theorem rightP_step (p : Prg) (r : Rung) (hr : r.Wf) : Ret Try.prog 28 [] (fun _ => false) ([p.enc, r.enc].map .d) (.d (.bool (p.right r))) [] := by
  refine ret_body callB28 Try.func28 rfl Try.ntmps28 rfl rfl (fun wX gX => ?_)
  refine twp_norm [0, 1] (sub_d rfl (sub_d rfl .nil)) (blk_nil rfl) ?_
  refine twp_rseq ?_
  refine s_boxA rfl rfl rfl ?_
  refine s_eq 2 (.mptr 0 0 0 0) rfl rfl ?_
  refine s_boxA rfl rfl rfl ?_
  refine s_eq 3 (.mptr 1 0 0 0) rfl rfl ?_
  refine s_rd _ rfl (mv_d (.inr rfl) rfl) ?_
  refine tops_nil ?_
  refine twp_norm [2, 3] (sub_mptr rfl (sub_mptr rfl .nil)) (blk_boxN rfl (by repeat (first | exact NormC.nil rfl | apply nc_d rfl | apply nc_msl rfl | apply nc_mptr rfl | apply nc_fnc rfl)) (blk_boxN rfl (by repeat (first | exact NormC.nil rfl | apply nc_d rfl | apply nc_msl rfl | apply nc_mptr rfl | apply nc_fnc rfl)) (blk_nil rfl))) ?_
  refine twp_seq ?_
  refine twp_rseq ?_
  refine s_rd _ rfl (fieldAddr_mptr rfl fld50_0 rfl rfl) ?_
  refine s_rd _ rfl (by first | exact load_box_d rfl lay3 rfl rfl rfl | exact load_box rfl lay3 rfl rfl rfl) ?_
  refine tops_nil ?_
  refine twp_norm [2, 3, 6] (sub_mptr rfl (sub_mptr rfl (sub_d rfl .nil))) (blk_box rfl (blk_box rfl (blk_nil rfl))) ?_
  refine twp_block ?_
  refine twp_rseq ?_
  refine s_rd _ rfl (cmp_int rfl rfl rfl rfl) ?_
  refine s_rd _ rfl (mv_d (.inr rfl) rfl) ?_
  refine tops_nil ?_
  refine twp_norm [2, 3, 6, 7] (sub_mptr rfl (sub_mptr rfl (sub_d rfl (sub_d rfl .nil)))) (blk_box rfl (blk_box rfl (blk_nil rfl))) ?_
  refine twp_cond _ rfl (fun h0 => ?_) (fun h0 => ?_)
  · refine twp_rseq ?_
    refine s_rd _ rfl (fieldAddr_mptr rfl fld50_2 rfl rfl) ?_
    refine s_rd _ rfl (by first | exact load_box_d rfl lay3 rfl rfl rfl | exact load_box rfl lay3 rfl rfl rfl) ?_
    refine s_rd _ rfl (cmp_int rfl rfl rfl rfl) ?_
    refine tops_nil ?_
    refine twp_norm [2, 3, 11] (sub_mptr rfl (sub_mptr rfl (sub_d rfl .nil))) (blk_box rfl (blk_box rfl (blk_nil rfl))) ?_
    refine twp_cond _ rfl (fun h1 => ?_) (fun h1 => ?_)
    · refine twp_rseq ?_
      refine s_rd _ rfl (mv_d (.inr rfl) rfl) ?_
      refine tops_nil ?_
      refine twp_norm [4] (sub_d rfl .nil) (blk_box rfl (blk_box rfl (blk_nil rfl))) ?_
      refine twp_ret ?_
      refine way_blockRet ?_
      refine way_thenRet ?_
      exact Ends.plainB _ rfl (by grind [Prg.right])
    · refine twp_skip ?_
      refine way_block ?_
      refine way_then ?_
      refine twp_norm [2, 3] (sub_mptr rfl (sub_mptr rfl .nil)) (blk_box rfl (blk_box rfl (blk_nil rfl))) ?_
      refine twp_rseq ?_
      refine s_rd _ rfl (fieldAddr_mptr rfl fld50_1 rfl rfl) ?_
      refine s_rd _ rfl (by first | exact load_box_d rfl lay3 rfl rfl rfl | exact load_box rfl lay3 rfl rfl rfl) ?_
      refine s_rd _ rfl (fieldAddr_mptr rfl fld25_1 rfl rfl) ?_
      refine s_rd _ rfl (by first | exact load_box_d rfl lay3 rfl rfl rfl | exact load_box rfl lay3 rfl rfl rfl) ?_
      refine s_rd _ rfl (cmp_int rfl rfl rfl rfl) ?_
      refine s_rd _ rfl (mv_d (.inl rfl) rfl) ?_
      refine s_split 27 rfl (fun h2 => ?_) (fun h2 => ?_)
      · refine s_yes rfl rfl rfl ?_
        refine s_rd _ rfl (fieldAddr_mptr rfl fld50_1 rfl rfl) ?_
        refine s_yes rfl rfl rfl ?_
        refine s_rd _ rfl (by first | exact load_box_d rfl lay3 rfl rfl rfl | exact load_box rfl lay3 rfl rfl rfl) ?_
        refine s_yes rfl rfl rfl ?_
        refine s_rd _ rfl (fieldAddr_mptr rfl fld25_0 rfl rfl) ?_
        refine s_yes rfl rfl rfl ?_
        refine s_rd _ rfl (by first | exact load_box_d rfl lay22 rfl rfl rfl | exact load_box rfl lay22 rfl rfl rfl) ?_
        refine s_yes rfl rfl rfl ?_
        refine s_rd _ rfl (by first | exact len_d rfl sel22 rfl (by first | exact List.length_map _ | rfl) | exact len_msl rfl sel22 rfl | exact len_nil rfl sel22 rfl) ?_
        refine s_yes rfl rfl rfl ?_
        refine s_rd _ rfl (cmp_int rfl rfl rfl rfl) ?_
        refine s_rd _ rfl (by first | exact pick_Td rfl rfl rfl | exact pick_T rfl rfl rfl) ?_
        refine s_rd _ rfl (mv_d (.inl rfl) rfl) ?_
        refine s_split 35 rfl (fun h3 => ?_) (fun h3 => ?_)
        · refine s_yes rfl rfl rfl ?_
          refine s_rd _ rfl (fieldAddr_mptr rfl fld50_3 rfl rfl) ?_
          refine s_yes rfl rfl rfl ?_
          refine s_rd _ rfl (by first | exact load_boxA_d rfl lay47 rfl rfl (Nat.le_of_ble_eq_true rfl) rfl | exact load_boxA rfl lay47 rfl rfl (Nat.le_of_ble_eq_true rfl) rfl) ?_
          refine s_yes rfl rfl rfl ?_
          refine s_rd _ rfl (fieldAddr_mptr rfl fld25_0 rfl rfl) ?_
          refine s_yes rfl rfl rfl ?_
          refine s_rd _ rfl (by first | exact load_box_d rfl lay22 rfl rfl rfl | exact load_box rfl lay22 rfl rfl rfl) ?_
          refine s_yes rfl rfl rfl ?_
          refine s_rd _ rfl (by first | exact len_d rfl sel22 rfl (by first | exact List.length_map _ | rfl) | exact len_msl rfl sel22 rfl | exact len_nil rfl sel22 rfl) ?_
          refine s_yes rfl rfl rfl ?_
          refine s_rd _ rfl (rd_callRN rfl rfl (by repeat (first | exact snaps_nil | refine snaps_cons (.d _) ?_ | refine snaps_cons (snap_full rfl (by simp)) ?_ | refine snaps_cons (snap_full rfl rfl) ?_ | refine snaps_cons (snap_boxD rfl rfl) ?_ | refine snaps_cons (snap_agg (by repeat (first | exact SnapsO.nil | refine SnapsO.cons (Snap.d _) rfl ?_ | refine SnapsO.cons (snap_full rfl rfl) rfl ?_))) ?_)) (validP_n r.expr (p.names.length : Int) hr.expr)) ?_
          refine s_rd _ rfl (by first | exact pick_Td rfl rfl rfl | exact pick_T rfl rfl rfl) ?_
          refine s_rd _ rfl (mv_d (.inr rfl) rfl) ?_
          refine tops_nil ?_
          refine twp_norm [4] (sub_d rfl .nil) (blk_box rfl (blk_box rfl (blk_nil rfl))) ?_
          refine twp_ret ?_
          exact Ends.plainB _ rfl (by grind [Prg.right])
        · refine s_no rfl rfl rfl rfl ?_
          refine s_no rfl rfl rfl rfl ?_
          refine s_no rfl rfl rfl rfl ?_
          refine s_no rfl rfl rfl rfl ?_
          refine s_no rfl rfl rfl rfl ?_
          refine s_no rfl rfl rfl rfl ?_
          refine s_rd _ rfl (by first | exact pick_Fd rfl rfl rfl | exact pick_F rfl rfl rfl) ?_
          refine s_rd _ rfl (mv_d (.inr rfl) rfl) ?_
          refine tops_nil ?_
          refine twp_norm [4] (sub_d rfl .nil) (blk_box rfl (blk_box rfl (blk_nil rfl))) ?_
          refine twp_ret ?_
          exact Ends.plainB _ rfl (by grind [Prg.right])
      · refine s_no rfl rfl rfl rfl ?_
        refine s_no rfl rfl rfl rfl ?_
        refine s_no rfl rfl rfl rfl ?_
        refine s_no rfl rfl rfl rfl ?_
        refine s_no rfl rfl rfl rfl ?_
        refine s_no rfl rfl rfl rfl ?_
        refine s_rd _ rfl (by first | exact pick_Fd rfl rfl rfl | exact pick_F rfl rfl rfl) ?_
        refine s_rd _ rfl (mv_d (.inl rfl) rfl) ?_
        refine s_no rfl rfl rfl rfl ?_
        refine s_no rfl rfl rfl rfl ?_
        refine s_no rfl rfl rfl rfl ?_
        refine s_no rfl rfl rfl rfl ?_
        refine s_no rfl rfl rfl rfl ?_
        refine s_no rfl rfl rfl rfl ?_
        refine s_rd _ rfl (by first | exact pick_Fd rfl rfl rfl | exact pick_F rfl rfl rfl) ?_
        refine s_rd _ rfl (mv_d (.inr rfl) rfl) ?_
        refine tops_nil ?_
        refine twp_norm [4] (sub_d rfl .nil) (blk_box rfl (blk_box rfl (blk_nil rfl))) ?_
        refine twp_ret ?_
        exact Ends.plainB _ rfl (by grind [Prg.right])
  · refine twp_rseq ?_
    refine s_rd _ rfl (cmp_int rfl rfl rfl rfl) ?_
    refine s_rd _ rfl (mv_d (.inr rfl) rfl) ?_
    refine tops_nil ?_
    refine twp_norm [2, 3, 12] (sub_mptr rfl (sub_mptr rfl (sub_d rfl .nil))) (blk_box rfl (blk_box rfl (blk_nil rfl))) ?_
    refine twp_cond _ rfl (fun h4 => ?_) (fun h4 => ?_)
    · refine twp_rseq ?_
      refine s_rd _ rfl (fieldAddr_mptr rfl fld50_2 rfl rfl) ?_
      refine s_rd _ rfl (by first | exact load_box_d rfl lay3 rfl rfl rfl | exact load_box rfl lay3 rfl rfl rfl) ?_
      refine s_rd _ rfl (cmp_int rfl rfl rfl rfl) ?_
      refine s_rd _ rfl (mv_d (.inl rfl) rfl) ?_
      refine s_split 17 rfl (fun h5 => ?_) (fun h5 => ?_)
      · refine s_no rfl rfl rfl rfl ?_
        refine s_no rfl rfl rfl rfl ?_
        refine s_no rfl rfl rfl rfl ?_
        refine s_rd _ rfl (by first | exact pick_Td rfl rfl rfl | exact pick_T rfl rfl rfl) ?_
        refine tops_nil ?_
        refine twp_norm [2, 3, 21] (sub_mptr rfl (sub_mptr rfl (sub_d rfl .nil))) (blk_box rfl (blk_box rfl (blk_nil rfl))) ?_
        refine twp_cond true rfl (fun _ => ?_) (fun h => by cases h)
        refine twp_rseq ?_
        refine s_rd _ rfl (mv_d (.inr rfl) rfl) ?_
        refine tops_nil ?_
        refine twp_norm [4] (sub_d rfl .nil) (blk_box rfl (blk_box rfl (blk_nil rfl))) ?_
        refine twp_ret ?_
        refine way_blockRet ?_
        refine way_thenRet ?_
        exact Ends.plainB _ rfl (by grind [Prg.right])
      · refine s_yes rfl rfl rfl ?_
        refine s_rd _ rfl (fieldAddr_mptr rfl fld50_2 rfl rfl) ?_
        refine s_yes rfl rfl rfl ?_
        refine s_rd _ rfl (by first | exact load_box_d rfl lay3 rfl rfl rfl | exact load_box rfl lay3 rfl rfl rfl) ?_
        refine s_yes rfl rfl rfl ?_
        refine s_rd _ rfl (cmp_int rfl rfl rfl rfl) ?_
        refine s_rd _ rfl (by first | exact pick_Fd rfl rfl rfl | exact pick_F rfl rfl rfl) ?_
        refine tops_nil ?_
        refine twp_norm [2, 3, 21] (sub_mptr rfl (sub_mptr rfl (sub_d rfl .nil))) (blk_box rfl (blk_box rfl (blk_nil rfl))) ?_
        refine twp_cond _ rfl (fun h7 => ?_) (fun h7 => ?_)
        · refine twp_rseq ?_
          refine s_rd _ rfl (mv_d (.inr rfl) rfl) ?_
          refine tops_nil ?_
          refine twp_norm [4] (sub_d rfl .nil) (blk_box rfl (blk_box rfl (blk_nil rfl))) ?_
          refine twp_ret ?_
          refine way_blockRet ?_
          refine way_thenRet ?_
          exact Ends.plainB _ rfl (by grind [Prg.right])
        · refine twp_skip ?_
          refine way_block ?_
          refine way_then ?_
          refine twp_norm [2, 3] (sub_mptr rfl (sub_mptr rfl .nil)) (blk_box rfl (blk_box rfl (blk_nil rfl))) ?_
          refine twp_rseq ?_
          refine s_rd _ rfl (fieldAddr_mptr rfl fld50_1 rfl rfl) ?_
          refine s_rd _ rfl (by first | exact load_box_d rfl lay3 rfl rfl rfl | exact load_box rfl lay3 rfl rfl rfl) ?_
          refine s_rd _ rfl (fieldAddr_mptr rfl fld25_1 rfl rfl) ?_
          refine s_rd _ rfl (by first | exact load_box_d rfl lay3 rfl rfl rfl | exact load_box rfl lay3 rfl rfl rfl) ?_
          refine s_rd _ rfl (cmp_int rfl rfl rfl rfl) ?_
          refine s_rd _ rfl (mv_d (.inl rfl) rfl) ?_
          refine s_split 27 rfl (fun h8 => ?_) (fun h8 => ?_)
          · refine s_yes rfl rfl rfl ?_
            refine s_rd _ rfl (fieldAddr_mptr rfl fld50_1 rfl rfl) ?_
            refine s_yes rfl rfl rfl ?_
            refine s_rd _ rfl (by first | exact load_box_d rfl lay3 rfl rfl rfl | exact load_box rfl lay3 rfl rfl rfl) ?_
            refine s_yes rfl rfl rfl ?_
            refine s_rd _ rfl (fieldAddr_mptr rfl fld25_0 rfl rfl) ?_
            refine s_yes rfl rfl rfl ?_
            refine s_rd _ rfl (by first | exact load_box_d rfl lay22 rfl rfl rfl | exact load_box rfl lay22 rfl rfl rfl) ?_
            refine s_yes rfl rfl rfl ?_
            refine s_rd _ rfl (by first | exact len_d rfl sel22 rfl (by first | exact List.length_map _ | rfl) | exact len_msl rfl sel22 rfl | exact len_nil rfl sel22 rfl) ?_
            refine s_yes rfl rfl rfl ?_
            refine s_rd _ rfl (cmp_int rfl rfl rfl rfl) ?_
            refine s_rd _ rfl (by first | exact pick_Td rfl rfl rfl | exact pick_T rfl rfl rfl) ?_
            refine s_rd _ rfl (mv_d (.inl rfl) rfl) ?_
            refine s_split 35 rfl (fun h9 => ?_) (fun h9 => ?_)
            · refine s_yes rfl rfl rfl ?_
              refine s_rd _ rfl (fieldAddr_mptr rfl fld50_3 rfl rfl) ?_
              refine s_yes rfl rfl rfl ?_
              refine s_rd _ rfl (by first | exact load_boxA_d rfl lay47 rfl rfl (Nat.le_of_ble_eq_true rfl) rfl | exact load_boxA rfl lay47 rfl rfl (Nat.le_of_ble_eq_true rfl) rfl) ?_
              refine s_yes rfl rfl rfl ?_
              refine s_rd _ rfl (fieldAddr_mptr rfl fld25_0 rfl rfl) ?_
              refine s_yes rfl rfl rfl ?_
              refine s_rd _ rfl (by first | exact load_box_d rfl lay22 rfl rfl rfl | exact load_box rfl lay22 rfl rfl rfl) ?_
              refine s_yes rfl rfl rfl ?_
              refine s_rd _ rfl (by first | exact len_d rfl sel22 rfl (by first | exact List.length_map _ | rfl) | exact len_msl rfl sel22 rfl | exact len_nil rfl sel22 rfl) ?_
              refine s_yes rfl rfl rfl ?_
              refine s_rd _ rfl (rd_callRN rfl rfl (by repeat (first | exact snaps_nil | refine snaps_cons (.d _) ?_ | refine snaps_cons (snap_full rfl (by simp)) ?_ | refine snaps_cons (snap_full rfl rfl) ?_ | refine snaps_cons (snap_boxD rfl rfl) ?_ | refine snaps_cons (snap_agg (by repeat (first | exact SnapsO.nil | refine SnapsO.cons (Snap.d _) rfl ?_ | refine SnapsO.cons (snap_full rfl rfl) rfl ?_))) ?_)) (validP_n r.expr (p.names.length : Int) hr.expr)) ?_
              refine s_rd _ rfl (by first | exact pick_Td rfl rfl rfl | exact pick_T rfl rfl rfl) ?_
              refine s_rd _ rfl (mv_d (.inr rfl) rfl) ?_
              refine tops_nil ?_
              refine twp_norm [4] (sub_d rfl .nil) (blk_box rfl (blk_box rfl (blk_nil rfl))) ?_
              refine twp_ret ?_
              exact Ends.plainB _ rfl (by grind [Prg.right])
            · refine s_no rfl rfl rfl rfl ?_
              refine s_no rfl rfl rfl rfl ?_
              refine s_no rfl rfl rfl rfl ?_
              refine s_no rfl rfl rfl rfl ?_
              refine s_no rfl rfl rfl rfl ?_
              refine s_no rfl rfl rfl rfl ?_
              refine s_rd _ rfl (by first | exact pick_Fd rfl rfl rfl | exact pick_F rfl rfl rfl) ?_
              refine s_rd _ rfl (mv_d (.inr rfl) rfl) ?_
              refine tops_nil ?_
              refine twp_norm [4] (sub_d rfl .nil) (blk_box rfl (blk_box rfl (blk_nil rfl))) ?_
              refine twp_ret ?_
              exact Ends.plainB _ rfl (by grind [Prg.right])
          · refine s_no rfl rfl rfl rfl ?_
            refine s_no rfl rfl rfl rfl ?_
            refine s_no rfl rfl rfl rfl ?_
            refine s_no rfl rfl rfl rfl ?_
            refine s_no rfl rfl rfl rfl ?_
            refine s_no rfl rfl rfl rfl ?_
            refine s_rd _ rfl (by first | exact pick_Fd rfl rfl rfl | exact pick_F rfl rfl rfl) ?_
            refine s_rd _ rfl (mv_d (.inl rfl) rfl) ?_
            refine s_no rfl rfl rfl rfl ?_
            refine s_no rfl rfl rfl rfl ?_
            refine s_no rfl rfl rfl rfl ?_
            refine s_no rfl rfl rfl rfl ?_
            refine s_no rfl rfl rfl rfl ?_
            refine s_no rfl rfl rfl rfl ?_
            refine s_rd _ rfl (by first | exact pick_Fd rfl rfl rfl | exact pick_F rfl rfl rfl) ?_
            refine s_rd _ rfl (mv_d (.inr rfl) rfl) ?_
            refine tops_nil ?_
            refine twp_norm [4] (sub_d rfl .nil) (blk_box rfl (blk_box rfl (blk_nil rfl))) ?_
            refine twp_ret ?_
            exact Ends.plainB _ rfl (by grind [Prg.right])
    · refine twp_rseq ?_
      refine s_rd _ rfl (mv_d (.inr rfl) rfl) ?_
      refine tops_nil ?_
      refine twp_norm [4] (sub_d rfl .nil) (blk_box rfl (blk_box rfl (blk_nil rfl))) ?_
      refine twp_ret ?_
      refine way_blockRet ?_
      refine way_thenRet ?_
      exact Ends.plainB _ rfl (by grind [Prg.right])

theorem callB29 : callB Try.prog 29 = true := by kernel_rfl

theorem rightR_step (p : Prg) (r : Rung) (hs : r.expr.size ≤ 1000000) (hr : r.Wf) : Ret Try.prog 29 [] (fun _ => false) ([p.enc, r.enc].map .d) (.d (.bool (p.right r))) [] := by
  refine ret_body callB29 Try.func29 rfl Try.ntmps29 rfl rfl (fun wX gX => ?_)
  refine twp_norm [0, 1] (sub_d rfl (sub_d rfl .nil)) (blk_nil rfl) ?_
  refine twp_rseq ?_
  refine s_boxA rfl rfl rfl ?_
  refine s_eq 2 (.mptr 0 0 0 0) rfl rfl ?_
  refine s_boxA rfl rfl rfl ?_
  refine s_eq 3 (.mptr 1 0 0 0) rfl rfl ?_
  refine s_rd _ rfl (mv_d (.inr rfl) rfl) ?_
  refine tops_nil ?_
  refine twp_norm [2, 3] (sub_mptr rfl (sub_mptr rfl .nil)) (blk_boxN rfl (by repeat (first | exact NormC.nil rfl | apply nc_d rfl | apply nc_msl rfl | apply nc_mptr rfl | apply nc_fnc rfl)) (blk_boxN rfl (by repeat (first | exact NormC.nil rfl | apply nc_d rfl | apply nc_msl rfl | apply nc_mptr rfl | apply nc_fnc rfl)) (blk_nil rfl))) ?_
  refine twp_seq ?_
  refine twp_rseq ?_
  refine s_rd _ rfl (fieldAddr_mptr rfl fld50_0 rfl rfl) ?_
  refine s_rd _ rfl (by first | exact load_box_d rfl lay3 rfl rfl rfl | exact load_box rfl lay3 rfl rfl rfl) ?_
  refine s_rd _ rfl (cmp_int rfl rfl rfl rfl) ?_
  refine s_rd _ rfl (mv_d (.inl rfl) rfl) ?_
  refine s_split 8 rfl (fun h0 => ?_) (fun h0 => ?_)
  · refine s_yes rfl rfl rfl ?_
    refine s_rd _ rfl (fieldAddr_mptr rfl fld50_0 rfl rfl) ?_
    refine s_yes rfl rfl rfl ?_
    refine s_rd _ rfl (by first | exact load_box_d rfl lay3 rfl rfl rfl | exact load_box rfl lay3 rfl rfl rfl) ?_
    refine s_yes rfl rfl rfl ?_
    refine s_rd _ rfl (cmp_int rfl rfl rfl rfl) ?_
    refine s_rd _ rfl (by first | exact pick_Td rfl rfl rfl | exact pick_T rfl rfl rfl) ?_
    refine s_rd _ rfl (mv_d (.inl rfl) rfl) ?_
    refine s_split 13 rfl (fun h1 => ?_) (fun h1 => ?_)
    · refine s_no rfl rfl rfl rfl ?_
      refine s_no rfl rfl rfl rfl ?_
      refine s_no rfl rfl rfl rfl ?_
      refine s_no rfl rfl rfl rfl ?_
      refine s_no rfl rfl rfl rfl ?_
      refine s_rd _ rfl (by first | exact pick_Td rfl rfl rfl | exact pick_T rfl rfl rfl) ?_
      refine s_rd _ rfl (mv_d (.inl rfl) rfl) ?_
      refine s_no rfl rfl rfl rfl ?_
      refine s_no rfl rfl rfl rfl ?_
      refine s_no rfl rfl rfl rfl ?_
      refine s_no rfl rfl rfl rfl ?_
      refine s_no rfl rfl rfl rfl ?_
      refine s_no rfl rfl rfl rfl ?_
      refine s_rd _ rfl (by first | exact pick_Td rfl rfl rfl | exact pick_T rfl rfl rfl) ?_
      refine tops_nil ?_
      refine twp_norm [2, 3, 27] (sub_mptr rfl (sub_mptr rfl (sub_d rfl .nil))) (blk_box rfl (blk_box rfl (blk_nil rfl))) ?_
      refine twp_cond true rfl (fun _ => ?_) (fun h => by cases h)
      refine twp_rseq ?_
      refine s_rd _ rfl (mv_d (.inr rfl) rfl) ?_
      refine tops_nil ?_
      refine twp_norm [4] (sub_d rfl .nil) (blk_box rfl (blk_box rfl (blk_nil rfl))) ?_
      refine twp_ret ?_
      refine way_thenRet ?_
      exact Ends.plainB _ rfl (by grind [Prg.right])
    · refine s_yes rfl rfl rfl ?_
      refine s_rd _ rfl (fieldAddr_mptr rfl fld50_1 rfl rfl) ?_
      refine s_yes rfl rfl rfl ?_
      refine s_rd _ rfl (by first | exact load_box_d rfl lay3 rfl rfl rfl | exact load_box rfl lay3 rfl rfl rfl) ?_
      refine s_yes rfl rfl rfl ?_
      refine s_rd _ rfl (fieldAddr_mptr rfl fld25_1 rfl rfl) ?_
      refine s_yes rfl rfl rfl ?_
      refine s_rd _ rfl (by first | exact load_box_d rfl lay3 rfl rfl rfl | exact load_box rfl lay3 rfl rfl rfl) ?_
      refine s_yes rfl rfl rfl ?_
      refine s_rd _ rfl (cmp_int rfl rfl rfl rfl) ?_
      refine s_rd _ rfl (by first | exact pick_Fd rfl rfl rfl | exact pick_F rfl rfl rfl) ?_
      refine s_rd _ rfl (mv_d (.inl rfl) rfl) ?_
      refine s_split 20 rfl (fun h3 => ?_) (fun h3 => ?_)
      · refine s_no rfl rfl rfl rfl ?_
        refine s_no rfl rfl rfl rfl ?_
        refine s_no rfl rfl rfl rfl ?_
        refine s_no rfl rfl rfl rfl ?_
        refine s_no rfl rfl rfl rfl ?_
        refine s_no rfl rfl rfl rfl ?_
        refine s_rd _ rfl (by first | exact pick_Td rfl rfl rfl | exact pick_T rfl rfl rfl) ?_
        refine tops_nil ?_
        refine twp_norm [2, 3, 27] (sub_mptr rfl (sub_mptr rfl (sub_d rfl .nil))) (blk_box rfl (blk_box rfl (blk_nil rfl))) ?_
        refine twp_cond true rfl (fun _ => ?_) (fun h => by cases h)
        refine twp_rseq ?_
        refine s_rd _ rfl (mv_d (.inr rfl) rfl) ?_
        refine tops_nil ?_
        refine twp_norm [4] (sub_d rfl .nil) (blk_box rfl (blk_box rfl (blk_nil rfl))) ?_
        refine twp_ret ?_
        refine way_thenRet ?_
        exact Ends.plainB _ rfl (by grind [Prg.right])
      · refine s_yes rfl rfl rfl ?_
        refine s_rd _ rfl (fieldAddr_mptr rfl fld50_1 rfl rfl) ?_
        refine s_yes rfl rfl rfl ?_
        refine s_rd _ rfl (by first | exact load_box_d rfl lay3 rfl rfl rfl | exact load_box rfl lay3 rfl rfl rfl) ?_
        refine s_yes rfl rfl rfl ?_
        refine s_rd _ rfl (fieldAddr_mptr rfl fld25_0 rfl rfl) ?_
        refine s_yes rfl rfl rfl ?_
        refine s_rd _ rfl (by first | exact load_box_d rfl lay22 rfl rfl rfl | exact load_box rfl lay22 rfl rfl rfl) ?_
        refine s_yes rfl rfl rfl ?_
        refine s_rd _ rfl (by first | exact len_d rfl sel22 rfl (by first | exact List.length_map _ | rfl) | exact len_msl rfl sel22 rfl | exact len_nil rfl sel22 rfl) ?_
        refine s_yes rfl rfl rfl ?_
        refine s_rd _ rfl (cmp_int rfl rfl rfl rfl) ?_
        refine s_rd _ rfl (by first | exact pick_Fd rfl rfl rfl | exact pick_F rfl rfl rfl) ?_
        refine tops_nil ?_
        refine twp_norm [2, 3, 27] (sub_mptr rfl (sub_mptr rfl (sub_d rfl .nil))) (blk_box rfl (blk_box rfl (blk_nil rfl))) ?_
        refine twp_cond _ rfl (fun h5 => ?_) (fun h5 => ?_)
        · refine twp_rseq ?_
          refine s_rd _ rfl (mv_d (.inr rfl) rfl) ?_
          refine tops_nil ?_
          refine twp_norm [4] (sub_d rfl .nil) (blk_box rfl (blk_box rfl (blk_nil rfl))) ?_
          refine twp_ret ?_
          refine way_thenRet ?_
          exact Ends.plainB _ rfl (by grind [Prg.right])
        · refine twp_skip ?_
          refine way_then ?_
          refine twp_norm [2, 3] (sub_mptr rfl (sub_mptr rfl .nil)) (blk_box rfl (blk_box rfl (blk_nil rfl))) ?_
          refine twp_seq ?_
          refine twp_rseq ?_
          refine s_rd _ rfl (fieldAddr_mptr rfl fld50_0 rfl rfl) ?_
          refine s_rd _ rfl (by first | exact load_box_d rfl lay3 rfl rfl rfl | exact load_box rfl lay3 rfl rfl rfl) ?_
          refine s_rd _ rfl (cmp_int rfl rfl rfl rfl) ?_
          refine s_rd _ rfl (mv_d (.inl rfl) rfl) ?_
          refine s_split 31 rfl (fun h6 => ?_) (fun h6 => ?_)
          · refine s_yes rfl rfl rfl ?_
            refine s_rd _ rfl (fieldAddr_mptr rfl fld50_2 rfl rfl) ?_
            refine s_yes rfl rfl rfl ?_
            refine s_rd _ rfl (by first | exact load_box_d rfl lay3 rfl rfl rfl | exact load_box rfl lay3 rfl rfl rfl) ?_
            refine s_yes rfl rfl rfl ?_
            refine s_rd _ rfl (cmp_int rfl rfl rfl rfl) ?_
            refine s_rd _ rfl (by first | exact pick_Td rfl rfl rfl | exact pick_T rfl rfl rfl) ?_
            refine s_rd _ rfl (mv_d (.inl rfl) rfl) ?_
            refine s_split 36 rfl (fun h7 => ?_) (fun h7 => ?_)
            · refine s_no rfl rfl rfl rfl ?_
              refine s_no rfl rfl rfl rfl ?_
              refine s_no rfl rfl rfl rfl ?_
              refine s_no rfl rfl rfl rfl ?_
              refine s_nor rfl rfl rfl ?_
              refine s_nor rfl rfl rfl ?_
              refine s_nor rfl rfl rfl ?_
              refine s_nor rfl rfl rfl ?_
              refine s_nor rfl rfl rfl ?_
              refine s_nor rfl rfl rfl ?_
              refine s_nor rfl rfl rfl ?_
              refine s_nor rfl rfl rfl ?_
              refine s_no rfl rfl rfl rfl ?_
              refine s_rd _ rfl (by first | exact pick_Td rfl rfl rfl | exact pick_T rfl rfl rfl) ?_
              refine tops_nil ?_
              refine twp_norm [2, 3, 50] (sub_mptr rfl (sub_mptr rfl (sub_d rfl .nil))) (blk_box rfl (blk_box rfl (blk_nil rfl))) ?_
              refine twp_cond true rfl (fun _ => ?_) (fun h => by cases h)
              refine twp_rseq ?_
              refine s_rd _ rfl (mv_d (.inr rfl) rfl) ?_
              refine tops_nil ?_
              refine twp_norm [4] (sub_d rfl .nil) (blk_box rfl (blk_box rfl (blk_nil rfl))) ?_
              refine twp_ret ?_
              refine way_thenRet ?_
              exact Ends.plainB _ rfl (by grind [Prg.right])
            · refine s_yes rfl rfl rfl ?_
              refine s_rd _ rfl (fieldAddr_mptr rfl fld50_0 rfl rfl) ?_
              refine s_yes rfl rfl rfl ?_
              refine s_rd _ rfl (by first | exact load_box_d rfl lay3 rfl rfl rfl | exact load_box rfl lay3 rfl rfl rfl) ?_
              refine s_yes rfl rfl rfl ?_
              refine s_rd _ rfl (cmp_int rfl rfl rfl rfl) ?_
              refine s_yes rfl rfl rfl ?_
              refine s_rd _ rfl (mv_d (.inl rfl) rfl) ?_
              refine s_split 40 rfl (fun h9 => ?_) (fun h9 => ?_)
              · refine s_yes rfl rfl rfl ?_
                refine s_rd _ rfl (fieldAddr_mptr rfl fld50_2 rfl rfl) ?_
                refine s_yes rfl rfl rfl ?_
                refine s_rd _ rfl (by first | exact load_box_d rfl lay3 rfl rfl rfl | exact load_box rfl lay3 rfl rfl rfl) ?_
                refine s_yes rfl rfl rfl ?_
                refine s_rd _ rfl (cmp_int rfl rfl rfl rfl) ?_
                refine s_yes rfl rfl rfl ?_
                refine s_rd _ rfl (mv_d (.inl rfl) rfl) ?_
                refine s_split 44 rfl (fun h10 => ?_) (fun h10 => ?_)
                · refine s_no rfl rfl rfl rfl ?_
                  refine s_no rfl rfl rfl rfl ?_
                  refine s_no rfl rfl rfl rfl ?_
                  refine s_yes rfl rfl rfl ?_
                  refine s_rd _ rfl (by first | exact pick_Td rfl rfl rfl | exact pick_T rfl rfl rfl) ?_
                  refine s_yes rfl rfl rfl ?_
                  refine s_rd _ rfl (by first | exact pick_Td rfl rfl rfl | exact pick_T rfl rfl rfl) ?_
                  refine s_rd _ rfl (by first | exact pick_Fd rfl rfl rfl | exact pick_F rfl rfl rfl) ?_
                  refine tops_nil ?_
                  refine twp_norm [2, 3, 50] (sub_mptr rfl (sub_mptr rfl (sub_d rfl .nil))) (blk_box rfl (blk_box rfl (blk_nil rfl))) ?_
                  refine twp_cond true rfl (fun _ => ?_) (fun h => by cases h)
                  refine twp_rseq ?_
                  refine s_rd _ rfl (mv_d (.inr rfl) rfl) ?_
                  refine tops_nil ?_
                  refine twp_norm [4] (sub_d rfl .nil) (blk_box rfl (blk_box rfl (blk_nil rfl))) ?_
                  refine twp_ret ?_
                  refine way_thenRet ?_
                  exact Ends.plainB _ rfl (by grind [Prg.right])
                · refine s_yes rfl rfl rfl ?_
                  refine s_rd _ rfl (fieldAddr_mptr rfl fld50_2 rfl rfl) ?_
                  refine s_yes rfl rfl rfl ?_
                  refine s_rd _ rfl (by first | exact load_box_d rfl lay3 rfl rfl rfl | exact load_box rfl lay3 rfl rfl rfl) ?_
                  refine s_yes rfl rfl rfl ?_
                  refine s_rd _ rfl (cmp_int rfl rfl rfl rfl) ?_
                  refine s_yes rfl rfl rfl ?_
                  refine s_rd _ rfl (by first | exact pick_Fd rfl rfl rfl | exact pick_F rfl rfl rfl) ?_
                  refine s_yes rfl rfl rfl ?_
                  refine s_rd _ rfl (by first | exact pick_Td rfl rfl rfl | exact pick_T rfl rfl rfl) ?_
                  refine s_rd _ rfl (by first | exact pick_Fd rfl rfl rfl | exact pick_F rfl rfl rfl) ?_
                  refine tops_nil ?_
                  refine twp_norm [2, 3, 50] (sub_mptr rfl (sub_mptr rfl (sub_d rfl .nil))) (blk_box rfl (blk_box rfl (blk_nil rfl))) ?_
                  refine twp_cond _ rfl (fun h12 => ?_) (fun h12 => ?_)
                  · refine twp_rseq ?_
                    refine s_rd _ rfl (mv_d (.inr rfl) rfl) ?_
                    refine tops_nil ?_
                    refine twp_norm [4] (sub_d rfl .nil) (blk_box rfl (blk_box rfl (blk_nil rfl))) ?_
                    refine twp_ret ?_
                    refine way_thenRet ?_
                    exact Ends.plainB _ rfl (by grind [Prg.right])
                  · refine twp_skip ?_
                    refine way_then ?_
                    refine twp_norm [2, 3] (sub_mptr rfl (sub_mptr rfl .nil)) (blk_box rfl (blk_box rfl (blk_nil rfl))) ?_
                    refine twp_rseq ?_
                    refine s_rd _ rfl (fieldAddr_mptr rfl fld50_3 rfl rfl) ?_
                    refine s_rd _ rfl (by first | exact load_boxA_d rfl lay47 rfl rfl (Nat.le_of_ble_eq_true rfl) rfl | exact load_boxA rfl lay47 rfl rfl (Nat.le_of_ble_eq_true rfl) rfl) ?_
                    refine s_rd _ rfl (fieldAddr_mptr rfl fld25_0 rfl rfl) ?_
                    refine s_rd _ rfl (by first | exact load_box_d rfl lay22 rfl rfl rfl | exact load_box rfl lay22 rfl rfl rfl) ?_
                    refine s_rd _ rfl (by first | exact len_d rfl sel22 rfl (by first | exact List.length_map _ | rfl) | exact len_msl rfl sel22 rfl | exact len_nil rfl sel22 rfl) ?_
                    refine s_rd _ rfl (rd_callRN rfl rfl (by repeat (first | exact snaps_nil | refine snaps_cons (.d _) ?_ | refine snaps_cons (snap_full rfl (by simp)) ?_ | refine snaps_cons (snap_full rfl rfl) ?_ | refine snaps_cons (snap_boxD rfl rfl) ?_ | refine snaps_cons (snap_agg (by repeat (first | exact SnapsO.nil | refine SnapsO.cons (Snap.d _) rfl ?_ | refine SnapsO.cons (snap_full rfl rfl) rfl ?_))) ?_)) (validR_n r.expr (p.names.length : Int) hs hr.expr)) ?_
                    refine s_rd _ rfl (mv_d (.inr rfl) rfl) ?_
                    refine tops_nil ?_
                    refine twp_norm [4] (sub_d rfl .nil) (blk_box rfl (blk_box rfl (blk_nil rfl))) ?_
                    refine twp_ret ?_
                    exact Ends.plainB _ rfl (by grind [Prg.right])
              · refine s_no rfl rfl rfl rfl ?_
                refine s_no rfl rfl rfl rfl ?_
                refine s_no rfl rfl rfl rfl ?_
                refine s_no rfl rfl rfl rfl ?_
                refine s_nor rfl rfl rfl ?_
                refine s_nor rfl rfl rfl ?_
                refine s_nor rfl rfl rfl ?_
                refine s_no rfl rfl rfl rfl ?_
                refine s_yes rfl rfl rfl ?_
                refine s_rd _ rfl (by first | exact pick_Fd rfl rfl rfl | exact pick_F rfl rfl rfl) ?_
                refine s_rd _ rfl (by first | exact pick_Fd rfl rfl rfl | exact pick_F rfl rfl rfl) ?_
                refine tops_nil ?_
                refine twp_norm [2, 3, 50] (sub_mptr rfl (sub_mptr rfl (sub_d rfl .nil))) (blk_box rfl (blk_box rfl (blk_nil rfl))) ?_
                refine twp_cond false rfl (fun h => by cases h) (fun _ => ?_)
                refine twp_skip ?_
                refine way_then ?_
                refine twp_norm [2, 3] (sub_mptr rfl (sub_mptr rfl .nil)) (blk_box rfl (blk_box rfl (blk_nil rfl))) ?_
                refine twp_rseq ?_
                refine s_rd _ rfl (fieldAddr_mptr rfl fld50_3 rfl rfl) ?_
                refine s_rd _ rfl (by first | exact load_boxA_d rfl lay47 rfl rfl (Nat.le_of_ble_eq_true rfl) rfl | exact load_boxA rfl lay47 rfl rfl (Nat.le_of_ble_eq_true rfl) rfl) ?_
                refine s_rd _ rfl (fieldAddr_mptr rfl fld25_0 rfl rfl) ?_
                refine s_rd _ rfl (by first | exact load_box_d rfl lay22 rfl rfl rfl | exact load_box rfl lay22 rfl rfl rfl) ?_
                refine s_rd _ rfl (by first | exact len_d rfl sel22 rfl (by first | exact List.length_map _ | rfl) | exact len_msl rfl sel22 rfl | exact len_nil rfl sel22 rfl) ?_
                refine s_rd _ rfl (rd_callRN rfl rfl (by repeat (first | exact snaps_nil | refine snaps_cons (.d _) ?_ | refine snaps_cons (snap_full rfl (by simp)) ?_ | refine snaps_cons (snap_full rfl rfl) ?_ | refine snaps_cons (snap_boxD rfl rfl) ?_ | refine snaps_cons (snap_agg (by repeat (first | exact SnapsO.nil | refine SnapsO.cons (Snap.d _) rfl ?_ | refine SnapsO.cons (snap_full rfl rfl) rfl ?_))) ?_)) (validR_n r.expr (p.names.length : Int) hs hr.expr)) ?_
                refine s_rd _ rfl (mv_d (.inr rfl) rfl) ?_
                refine tops_nil ?_
                refine twp_norm [4] (sub_d rfl .nil) (blk_box rfl (blk_box rfl (blk_nil rfl))) ?_
                refine twp_ret ?_
                exact Ends.plainB _ rfl (by grind [Prg.right])
          · refine s_no rfl rfl rfl rfl ?_
            refine s_no rfl rfl rfl rfl ?_
            refine s_no rfl rfl rfl rfl ?_
            refine s_rd _ rfl (by first | exact pick_Fd rfl rfl rfl | exact pick_F rfl rfl rfl) ?_
            refine s_rd _ rfl (mv_d (.inl rfl) rfl) ?_
            refine s_yes rfl rfl rfl ?_
            refine s_rd _ rfl (fieldAddr_mptr rfl fld50_0 rfl rfl) ?_
            refine s_yes rfl rfl rfl ?_
            refine s_rd _ rfl (by first | exact load_box_d rfl lay3 rfl rfl rfl | exact load_box rfl lay3 rfl rfl rfl) ?_
            refine s_yes rfl rfl rfl ?_
            refine s_rd _ rfl (cmp_int rfl rfl rfl rfl) ?_
            refine s_yes rfl rfl rfl ?_
            refine s_rd _ rfl (mv_d (.inl rfl) rfl) ?_
            refine s_split 40 rfl (fun h14 => ?_) (fun h14 => ?_)
            · refine s_yes rfl rfl rfl ?_
              refine s_rd _ rfl (fieldAddr_mptr rfl fld50_2 rfl rfl) ?_
              refine s_yes rfl rfl rfl ?_
              refine s_rd _ rfl (by first | exact load_box_d rfl lay3 rfl rfl rfl | exact load_box rfl lay3 rfl rfl rfl) ?_
              refine s_yes rfl rfl rfl ?_
              refine s_rd _ rfl (cmp_int rfl rfl rfl rfl) ?_
              refine s_yes rfl rfl rfl ?_
              refine s_rd _ rfl (mv_d (.inl rfl) rfl) ?_
              refine s_split 44 rfl (fun h15 => ?_) (fun h15 => ?_)
              · refine s_no rfl rfl rfl rfl ?_
                refine s_no rfl rfl rfl rfl ?_
                refine s_no rfl rfl rfl rfl ?_
                refine s_yes rfl rfl rfl ?_
                refine s_rd _ rfl (by first | exact pick_Td rfl rfl rfl | exact pick_T rfl rfl rfl) ?_
                refine s_yes rfl rfl rfl ?_
                refine s_rd _ rfl (by first | exact pick_Td rfl rfl rfl | exact pick_T rfl rfl rfl) ?_
                refine s_rd _ rfl (by first | exact pick_Fd rfl rfl rfl | exact pick_F rfl rfl rfl) ?_
                refine tops_nil ?_
                refine twp_norm [2, 3, 50] (sub_mptr rfl (sub_mptr rfl (sub_d rfl .nil))) (blk_box rfl (blk_box rfl (blk_nil rfl))) ?_
                refine twp_cond true rfl (fun _ => ?_) (fun h => by cases h)
                refine twp_rseq ?_
                refine s_rd _ rfl (mv_d (.inr rfl) rfl) ?_
                refine tops_nil ?_
                refine twp_norm [4] (sub_d rfl .nil) (blk_box rfl (blk_box rfl (blk_nil rfl))) ?_
                refine twp_ret ?_
                refine way_thenRet ?_
                exact Ends.plainB _ rfl (by grind [Prg.right])
              · refine s_yes rfl rfl rfl ?_
                refine s_rd _ rfl (fieldAddr_mptr rfl fld50_2 rfl rfl) ?_
                refine s_yes rfl rfl rfl ?_
                refine s_rd _ rfl (by first | exact load_box_d rfl lay3 rfl rfl rfl | exact load_box rfl lay3 rfl rfl rfl) ?_
                refine s_yes rfl rfl rfl ?_
                refine s_rd _ rfl (cmp_int rfl rfl rfl rfl) ?_
                refine s_yes rfl rfl rfl ?_
                refine s_rd _ rfl (by first | exact pick_Fd rfl rfl rfl | exact pick_F rfl rfl rfl) ?_
                refine s_yes rfl rfl rfl ?_
                refine s_rd _ rfl (by first | exact pick_Td rfl rfl rfl | exact pick_T rfl rfl rfl) ?_
                refine s_rd _ rfl (by first | exact pick_Fd rfl rfl rfl | exact pick_F rfl rfl rfl) ?_
                refine tops_nil ?_
                refine twp_norm [2, 3, 50] (sub_mptr rfl (sub_mptr rfl (sub_d rfl .nil))) (blk_box rfl (blk_box rfl (blk_nil rfl))) ?_
                refine twp_cond _ rfl (fun h17 => ?_) (fun h17 => ?_)
                · refine twp_rseq ?_
                  refine s_rd _ rfl (mv_d (.inr rfl) rfl) ?_
                  refine tops_nil ?_
                  refine twp_norm [4] (sub_d rfl .nil) (blk_box rfl (blk_box rfl (blk_nil rfl))) ?_
                  refine twp_ret ?_
                  refine way_thenRet ?_
                  exact Ends.plainB _ rfl (by grind [Prg.right])
                · refine twp_skip ?_
                  refine way_then ?_
                  refine twp_norm [2, 3] (sub_mptr rfl (sub_mptr rfl .nil)) (blk_box rfl (blk_box rfl (blk_nil rfl))) ?_
                  refine twp_rseq ?_
                  refine s_rd _ rfl (fieldAddr_mptr rfl fld50_3 rfl rfl) ?_
                  refine s_rd _ rfl (by first | exact load_boxA_d rfl lay47 rfl rfl (Nat.le_of_ble_eq_true rfl) rfl | exact load_boxA rfl lay47 rfl rfl (Nat.le_of_ble_eq_true rfl) rfl) ?_
                  refine s_rd _ rfl (fieldAddr_mptr rfl fld25_0 rfl rfl) ?_
                  refine s_rd _ rfl (by first | exact load_box_d rfl lay22 rfl rfl rfl | exact load_box rfl lay22 rfl rfl rfl) ?_
                  refine s_rd _ rfl (by first | exact len_d rfl sel22 rfl (by first | exact List.length_map _ | rfl) | exact len_msl rfl sel22 rfl | exact len_nil rfl sel22 rfl) ?_
                  refine s_rd _ rfl (rd_callRN rfl rfl (by repeat (first | exact snaps_nil | refine snaps_cons (.d _) ?_ | refine snaps_cons (snap_full rfl (by simp)) ?_ | refine snaps_cons (snap_full rfl rfl) ?_ | refine snaps_cons (snap_boxD rfl rfl) ?_ | refine snaps_cons (snap_agg (by repeat (first | exact SnapsO.nil | refine SnapsO.cons (Snap.d _) rfl ?_ | refine SnapsO.cons (snap_full rfl rfl) rfl ?_))) ?_)) (validR_n r.expr (p.names.length : Int) hs hr.expr)) ?_
                  refine s_rd _ rfl (mv_d (.inr rfl) rfl) ?_
                  refine tops_nil ?_
                  refine twp_norm [4] (sub_d rfl .nil) (blk_box rfl (blk_box rfl (blk_nil rfl))) ?_
                  refine twp_ret ?_
                  exact Ends.plainB _ rfl (by grind [Prg.right])
            · refine s_no rfl rfl rfl rfl ?_
              refine s_no rfl rfl rfl rfl ?_
              refine s_no rfl rfl rfl rfl ?_
              refine s_no rfl rfl rfl rfl ?_
              refine s_nor rfl rfl rfl ?_
              refine s_nor rfl rfl rfl ?_
              refine s_nor rfl rfl rfl ?_
              refine s_no rfl rfl rfl rfl ?_
              refine s_yes rfl rfl rfl ?_
              refine s_rd _ rfl (by first | exact pick_Fd rfl rfl rfl | exact pick_F rfl rfl rfl) ?_
              refine s_rd _ rfl (by first | exact pick_Fd rfl rfl rfl | exact pick_F rfl rfl rfl) ?_
              refine tops_nil ?_
              refine twp_norm [2, 3, 50] (sub_mptr rfl (sub_mptr rfl (sub_d rfl .nil))) (blk_box rfl (blk_box rfl (blk_nil rfl))) ?_
              refine twp_cond false rfl (fun h => by cases h) (fun _ => ?_)
              refine twp_skip ?_
              refine way_then ?_
              refine twp_norm [2, 3] (sub_mptr rfl (sub_mptr rfl .nil)) (blk_box rfl (blk_box rfl (blk_nil rfl))) ?_
              refine twp_rseq ?_
              refine s_rd _ rfl (fieldAddr_mptr rfl fld50_3 rfl rfl) ?_
              refine s_rd _ rfl (by first | exact load_boxA_d rfl lay47 rfl rfl (Nat.le_of_ble_eq_true rfl) rfl | exact load_boxA rfl lay47 rfl rfl (Nat.le_of_ble_eq_true rfl) rfl) ?_
              refine s_rd _ rfl (fieldAddr_mptr rfl fld25_0 rfl rfl) ?_
              refine s_rd _ rfl (by first | exact load_box_d rfl lay22 rfl rfl rfl | exact load_box rfl lay22 rfl rfl rfl) ?_
              refine s_rd _ rfl (by first | exact len_d rfl sel22 rfl (by first | exact List.length_map _ | rfl) | exact len_msl rfl sel22 rfl | exact len_nil rfl sel22 rfl) ?_
              refine s_rd _ rfl (rd_callRN rfl rfl (by repeat (first | exact snaps_nil | refine snaps_cons (.d _) ?_ | refine snaps_cons (snap_full rfl (by simp)) ?_ | refine snaps_cons (snap_full rfl rfl) ?_ | refine snaps_cons (snap_boxD rfl rfl) ?_ | refine snaps_cons (snap_agg (by repeat (first | exact SnapsO.nil | refine SnapsO.cons (Snap.d _) rfl ?_ | refine SnapsO.cons (snap_full rfl rfl) rfl ?_))) ?_)) (validR_n r.expr (p.names.length : Int) hs hr.expr)) ?_
              refine s_rd _ rfl (mv_d (.inr rfl) rfl) ?_
              refine tops_nil ?_
              refine twp_norm [4] (sub_d rfl .nil) (blk_box rfl (blk_box rfl (blk_nil rfl))) ?_
              refine twp_ret ?_
              exact Ends.plainB _ rfl (by grind [Prg.right])
  · refine s_no rfl rfl rfl rfl ?_
    refine s_no rfl rfl rfl rfl ?_
    refine s_no rfl rfl rfl rfl ?_
    refine s_rd _ rfl (by first | exact pick_Fd rfl rfl rfl | exact pick_F rfl rfl rfl) ?_
    refine s_rd _ rfl (mv_d (.inl rfl) rfl) ?_
    refine s_yes rfl rfl rfl ?_
    refine s_rd _ rfl (fieldAddr_mptr rfl fld50_1 rfl rfl) ?_
    refine s_yes rfl rfl rfl ?_
    refine s_rd _ rfl (by first | exact load_box_d rfl lay3 rfl rfl rfl | exact load_box rfl lay3 rfl rfl rfl) ?_
    refine s_yes rfl rfl rfl ?_
    refine s_rd _ rfl (fieldAddr_mptr rfl fld25_1 rfl rfl) ?_
    refine s_yes rfl rfl rfl ?_
    refine s_rd _ rfl (by first | exact load_box_d rfl lay3 rfl rfl rfl | exact load_box rfl lay3 rfl rfl rfl) ?_
    refine s_yes rfl rfl rfl ?_
    refine s_rd _ rfl (cmp_int rfl rfl rfl rfl) ?_
    refine s_rd _ rfl (by first | exact pick_Fd rfl rfl rfl | exact pick_F rfl rfl rfl) ?_
    refine s_rd _ rfl (mv_d (.inl rfl) rfl) ?_
    refine s_split 20 rfl (fun h19 => ?_) (fun h19 => ?_)
    · refine s_no rfl rfl rfl rfl ?_
      refine s_no rfl rfl rfl rfl ?_
      refine s_no rfl rfl rfl rfl ?_
      refine s_no rfl rfl rfl rfl ?_
      refine s_no rfl rfl rfl rfl ?_
      refine s_no rfl rfl rfl rfl ?_
      refine s_rd _ rfl (by first | exact pick_Td rfl rfl rfl | exact pick_T rfl rfl rfl) ?_
      refine tops_nil ?_
      refine twp_norm [2, 3, 27] (sub_mptr rfl (sub_mptr rfl (sub_d rfl .nil))) (blk_box rfl (blk_box rfl (blk_nil rfl))) ?_
      refine twp_cond true rfl (fun _ => ?_) (fun h => by cases h)
      refine twp_rseq ?_
      refine s_rd _ rfl (mv_d (.inr rfl) rfl) ?_
      refine tops_nil ?_
      refine twp_norm [4] (sub_d rfl .nil) (blk_box rfl (blk_box rfl (blk_nil rfl))) ?_
      refine twp_ret ?_
      refine way_thenRet ?_
      exact Ends.plainB _ rfl (by grind [Prg.right])
    · refine s_yes rfl rfl rfl ?_
      refine s_rd _ rfl (fieldAddr_mptr rfl fld50_1 rfl rfl) ?_
      refine s_yes rfl rfl rfl ?_
      refine s_rd _ rfl (by first | exact load_box_d rfl lay3 rfl rfl rfl | exact load_box rfl lay3 rfl rfl rfl) ?_
      refine s_yes rfl rfl rfl ?_
      refine s_rd _ rfl (fieldAddr_mptr rfl fld25_0 rfl rfl) ?_
      refine s_yes rfl rfl rfl ?_
      refine s_rd _ rfl (by first | exact load_box_d rfl lay22 rfl rfl rfl | exact load_box rfl lay22 rfl rfl rfl) ?_
      refine s_yes rfl rfl rfl ?_
      refine s_rd _ rfl (by first | exact len_d rfl sel22 rfl (by first | exact List.length_map _ | rfl) | exact len_msl rfl sel22 rfl | exact len_nil rfl sel22 rfl) ?_
      refine s_yes rfl rfl rfl ?_
      refine s_rd _ rfl (cmp_int rfl rfl rfl rfl) ?_
      refine s_rd _ rfl (by first | exact pick_Fd rfl rfl rfl | exact pick_F rfl rfl rfl) ?_
      refine tops_nil ?_
      refine twp_norm [2, 3, 27] (sub_mptr rfl (sub_mptr rfl (sub_d rfl .nil))) (blk_box rfl (blk_box rfl (blk_nil rfl))) ?_
      refine twp_cond _ rfl (fun h21 => ?_) (fun h21 => ?_)
      · refine twp_rseq ?_
        refine s_rd _ rfl (mv_d (.inr rfl) rfl) ?_
        refine tops_nil ?_
        refine twp_norm [4] (sub_d rfl .nil) (blk_box rfl (blk_box rfl (blk_nil rfl))) ?_
        refine twp_ret ?_
        refine way_thenRet ?_
        exact Ends.plainB _ rfl (by grind [Prg.right])
      · refine twp_skip ?_
        refine way_then ?_
        refine twp_norm [2, 3] (sub_mptr rfl (sub_mptr rfl .nil)) (blk_box rfl (blk_box rfl (blk_nil rfl))) ?_
        refine twp_seq ?_
        refine twp_rseq ?_
        refine s_rd _ rfl (fieldAddr_mptr rfl fld50_0 rfl rfl) ?_
        refine s_rd _ rfl (by first | exact load_box_d rfl lay3 rfl rfl rfl | exact load_box rfl lay3 rfl rfl rfl) ?_
        refine s_rd _ rfl (cmp_int rfl rfl rfl rfl) ?_
        refine s_rd _ rfl (mv_d (.inl rfl) rfl) ?_
        refine s_split 31 rfl (fun h22 => ?_) (fun h22 => ?_)
        · refine s_yes rfl rfl rfl ?_
          refine s_rd _ rfl (fieldAddr_mptr rfl fld50_2 rfl rfl) ?_
          refine s_yes rfl rfl rfl ?_
          refine s_rd _ rfl (by first | exact load_box_d rfl lay3 rfl rfl rfl | exact load_box rfl lay3 rfl rfl rfl) ?_
          refine s_yes rfl rfl rfl ?_
          refine s_rd _ rfl (cmp_int rfl rfl rfl rfl) ?_
          refine s_rd _ rfl (by first | exact pick_Td rfl rfl rfl | exact pick_T rfl rfl rfl) ?_
          refine s_rd _ rfl (mv_d (.inl rfl) rfl) ?_
          refine s_split 36 rfl (fun h23 => ?_) (fun h23 => ?_)
          · refine s_no rfl rfl rfl rfl ?_
            refine s_no rfl rfl rfl rfl ?_
            refine s_no rfl rfl rfl rfl ?_
            refine s_no rfl rfl rfl rfl ?_
            refine s_nor rfl rfl rfl ?_
            refine s_nor rfl rfl rfl ?_
            refine s_nor rfl rfl rfl ?_
            refine s_nor rfl rfl rfl ?_
            refine s_nor rfl rfl rfl ?_
            refine s_nor rfl rfl rfl ?_
            refine s_nor rfl rfl rfl ?_
            refine s_nor rfl rfl rfl ?_
            refine s_no rfl rfl rfl rfl ?_
            refine s_rd _ rfl (by first | exact pick_Td rfl rfl rfl | exact pick_T rfl rfl rfl) ?_
            refine tops_nil ?_
            refine twp_norm [2, 3, 50] (sub_mptr rfl (sub_mptr rfl (sub_d rfl .nil))) (blk_box rfl (blk_box rfl (blk_nil rfl))) ?_
            refine twp_cond true rfl (fun _ => ?_) (fun h => by cases h)
            refine twp_rseq ?_
            refine s_rd _ rfl (mv_d (.inr rfl) rfl) ?_
            refine tops_nil ?_
            refine twp_norm [4] (sub_d rfl .nil) (blk_box rfl (blk_box rfl (blk_nil rfl))) ?_
            refine twp_ret ?_
            refine way_thenRet ?_
            exact Ends.plainB _ rfl (by grind [Prg.right])
          · refine s_yes rfl rfl rfl ?_
            refine s_rd _ rfl (fieldAddr_mptr rfl fld50_0 rfl rfl) ?_
            refine s_yes rfl rfl rfl ?_
            refine s_rd _ rfl (by first | exact load_box_d rfl lay3 rfl rfl rfl | exact load_box rfl lay3 rfl rfl rfl) ?_
            refine s_yes rfl rfl rfl ?_
            refine s_rd _ rfl (cmp_int rfl rfl rfl rfl) ?_
            refine s_yes rfl rfl rfl ?_
            refine s_rd _ rfl (mv_d (.inl rfl) rfl) ?_
            refine s_split 40 rfl (fun h25 => ?_) (fun h25 => ?_)
            · refine s_yes rfl rfl rfl ?_
              refine s_rd _ rfl (fieldAddr_mptr rfl fld50_2 rfl rfl) ?_
              refine s_yes rfl rfl rfl ?_
              refine s_rd _ rfl (by first | exact load_box_d rfl lay3 rfl rfl rfl | exact load_box rfl lay3 rfl rfl rfl) ?_
              refine s_yes rfl rfl rfl ?_
              refine s_rd _ rfl (cmp_int rfl rfl rfl rfl) ?_
              refine s_yes rfl rfl rfl ?_
              refine s_rd _ rfl (mv_d (.inl rfl) rfl) ?_
              refine s_split 44 rfl (fun h26 => ?_) (fun h26 => ?_)
              · refine s_no rfl rfl rfl rfl ?_
                refine s_no rfl rfl rfl rfl ?_
                refine s_no rfl rfl rfl rfl ?_
                refine s_yes rfl rfl rfl ?_
                refine s_rd _ rfl (by first | exact pick_Td rfl rfl rfl | exact pick_T rfl rfl rfl) ?_
                refine s_yes rfl rfl rfl ?_
                refine s_rd _ rfl (by first | exact pick_Td rfl rfl rfl | exact pick_T rfl rfl rfl) ?_
                refine s_rd _ rfl (by first | exact pick_Fd rfl rfl rfl | exact pick_F rfl rfl rfl) ?_
                refine tops_nil ?_
                refine twp_norm [2, 3, 50] (sub_mptr rfl (sub_mptr rfl (sub_d rfl .nil))) (blk_box rfl (blk_box rfl (blk_nil rfl))) ?_
                refine twp_cond true rfl (fun _ => ?_) (fun h => by cases h)
                refine twp_rseq ?_
                refine s_rd _ rfl (mv_d (.inr rfl) rfl) ?_
                refine tops_nil ?_
                refine twp_norm [4] (sub_d rfl .nil) (blk_box rfl (blk_box rfl (blk_nil rfl))) ?_
                refine twp_ret ?_
                refine way_thenRet ?_
                exact Ends.plainB _ rfl (by grind [Prg.right])
              · refine s_yes rfl rfl rfl ?_
                refine s_rd _ rfl (fieldAddr_mptr rfl fld50_2 rfl rfl) ?_
                refine s_yes rfl rfl rfl ?_
                refine s_rd _ rfl (by first | exact load_box_d rfl lay3 rfl rfl rfl | exact load_box rfl lay3 rfl rfl rfl) ?_
                refine s_yes rfl rfl rfl ?_
                refine s_rd _ rfl (cmp_int rfl rfl rfl rfl) ?_
                refine s_yes rfl rfl rfl ?_
                refine s_rd _ rfl (by first | exact pick_Fd rfl rfl rfl | exact pick_F rfl rfl rfl) ?_
                refine s_yes rfl rfl rfl ?_
                refine s_rd _ rfl (by first | exact pick_Td rfl rfl rfl | exact pick_T rfl rfl rfl) ?_
                refine s_rd _ rfl (by first | exact pick_Fd rfl rfl rfl | exact pick_F rfl rfl rfl) ?_
                refine tops_nil ?_
                refine twp_norm [2, 3, 50] (sub_mptr rfl (sub_mptr rfl (sub_d rfl .nil))) (blk_box rfl (blk_box rfl (blk_nil rfl))) ?_
                refine twp_cond _ rfl (fun h28 => ?_) (fun h28 => ?_)
                · refine twp_rseq ?_
                  refine s_rd _ rfl (mv_d (.inr rfl) rfl) ?_
                  refine tops_nil ?_
                  refine twp_norm [4] (sub_d rfl .nil) (blk_box rfl (blk_box rfl (blk_nil rfl))) ?_
                  refine twp_ret ?_
                  refine way_thenRet ?_
                  exact Ends.plainB _ rfl (by grind [Prg.right])
                · refine twp_skip ?_
                  refine way_then ?_
                  refine twp_norm [2, 3] (sub_mptr rfl (sub_mptr rfl .nil)) (blk_box rfl (blk_box rfl (blk_nil rfl))) ?_
                  refine twp_rseq ?_
                  refine s_rd _ rfl (fieldAddr_mptr rfl fld50_3 rfl rfl) ?_
                  refine s_rd _ rfl (by first | exact load_boxA_d rfl lay47 rfl rfl (Nat.le_of_ble_eq_true rfl) rfl | exact load_boxA rfl lay47 rfl rfl (Nat.le_of_ble_eq_true rfl) rfl) ?_
                  refine s_rd _ rfl (fieldAddr_mptr rfl fld25_0 rfl rfl) ?_
                  refine s_rd _ rfl (by first | exact load_box_d rfl lay22 rfl rfl rfl | exact load_box rfl lay22 rfl rfl rfl) ?_
                  refine s_rd _ rfl (by first | exact len_d rfl sel22 rfl (by first | exact List.length_map _ | rfl) | exact len_msl rfl sel22 rfl | exact len_nil rfl sel22 rfl) ?_
                  refine s_rd _ rfl (rd_callRN rfl rfl (by repeat (first | exact snaps_nil | refine snaps_cons (.d _) ?_ | refine snaps_cons (snap_full rfl (by simp)) ?_ | refine snaps_cons (snap_full rfl rfl) ?_ | refine snaps_cons (snap_boxD rfl rfl) ?_ | refine snaps_cons (snap_agg (by repeat (first | exact SnapsO.nil | refine SnapsO.cons (Snap.d _) rfl ?_ | refine SnapsO.cons (snap_full rfl rfl) rfl ?_))) ?_)) (validR_n r.expr (p.names.length : Int) hs hr.expr)) ?_
                  refine s_rd _ rfl (mv_d (.inr rfl) rfl) ?_
                  refine tops_nil ?_
                  refine twp_norm [4] (sub_d rfl .nil) (blk_box rfl (blk_box rfl (blk_nil rfl))) ?_
                  refine twp_ret ?_
                  exact Ends.plainB _ rfl (by grind [Prg.right])
            · refine s_no rfl rfl rfl rfl ?_
              refine s_no rfl rfl rfl rfl ?_
              refine s_no rfl rfl rfl rfl ?_
              refine s_no rfl rfl rfl rfl ?_
              refine s_nor rfl rfl rfl ?_
              refine s_nor rfl rfl rfl ?_
              refine s_nor rfl rfl rfl ?_
              refine s_no rfl rfl rfl rfl ?_
              refine s_yes rfl rfl rfl ?_
              refine s_rd _ rfl (by first | exact pick_Fd rfl rfl rfl | exact pick_F rfl rfl rfl) ?_
              refine s_rd _ rfl (by first | exact pick_Fd rfl rfl rfl | exact pick_F rfl rfl rfl) ?_
              refine tops_nil ?_
              refine twp_norm [2, 3, 50] (sub_mptr rfl (sub_mptr rfl (sub_d rfl .nil))) (blk_box rfl (blk_box rfl (blk_nil rfl))) ?_
              refine twp_cond false rfl (fun h => by cases h) (fun _ => ?_)
              refine twp_skip ?_
              refine way_then ?_
              refine twp_norm [2, 3] (sub_mptr rfl (sub_mptr rfl .nil)) (blk_box rfl (blk_box rfl (blk_nil rfl))) ?_
              refine twp_rseq ?_
              refine s_rd _ rfl (fieldAddr_mptr rfl fld50_3 rfl rfl) ?_
              refine s_rd _ rfl (by first | exact load_boxA_d rfl lay47 rfl rfl (Nat.le_of_ble_eq_true rfl) rfl | exact load_boxA rfl lay47 rfl rfl (Nat.le_of_ble_eq_true rfl) rfl) ?_
              refine s_rd _ rfl (fieldAddr_mptr rfl fld25_0 rfl rfl) ?_
              refine s_rd _ rfl (by first | exact load_box_d rfl lay22 rfl rfl rfl | exact load_box rfl lay22 rfl rfl rfl) ?_
              refine s_rd _ rfl (by first | exact len_d rfl sel22 rfl (by first | exact List.length_map _ | rfl) | exact len_msl rfl sel22 rfl | exact len_nil rfl sel22 rfl) ?_
              refine s_rd _ rfl (rd_callRN rfl rfl (by repeat (first | exact snaps_nil | refine snaps_cons (.d _) ?_ | refine snaps_cons (snap_full rfl (by simp)) ?_ | refine snaps_cons (snap_full rfl rfl) ?_ | refine snaps_cons (snap_boxD rfl rfl) ?_ | refine snaps_cons (snap_agg (by repeat (first | exact SnapsO.nil | refine SnapsO.cons (Snap.d _) rfl ?_ | refine SnapsO.cons (snap_full rfl rfl) rfl ?_))) ?_)) (validR_n r.expr (p.names.length : Int) hs hr.expr)) ?_
              refine s_rd _ rfl (mv_d (.inr rfl) rfl) ?_
              refine tops_nil ?_
              refine twp_norm [4] (sub_d rfl .nil) (blk_box rfl (blk_box rfl (blk_nil rfl))) ?_
              refine twp_ret ?_
              exact Ends.plainB _ rfl (by grind [Prg.right])
        · refine s_no rfl rfl rfl rfl ?_
          refine s_no rfl rfl rfl rfl ?_
          refine s_no rfl rfl rfl rfl ?_
          refine s_rd _ rfl (by first | exact pick_Fd rfl rfl rfl | exact pick_F rfl rfl rfl) ?_
          refine s_rd _ rfl (mv_d (.inl rfl) rfl) ?_
          refine s_yes rfl rfl rfl ?_
          refine s_rd _ rfl (fieldAddr_mptr rfl fld50_0 rfl rfl) ?_
          refine s_yes rfl rfl rfl ?_
          refine s_rd _ rfl (by first | exact load_box_d rfl lay3 rfl rfl rfl | exact load_box rfl lay3 rfl rfl rfl) ?_
          refine s_yes rfl rfl rfl ?_
          refine s_rd _ rfl (cmp_int rfl rfl rfl rfl) ?_
          refine s_yes rfl rfl rfl ?_
          refine s_rd _ rfl (mv_d (.inl rfl) rfl) ?_
          refine s_split 40 rfl (fun h30 => ?_) (fun h30 => ?_)
          · refine s_yes rfl rfl rfl ?_
            refine s_rd _ rfl (fieldAddr_mptr rfl fld50_2 rfl rfl) ?_
            refine s_yes rfl rfl rfl ?_
            refine s_rd _ rfl (by first | exact load_box_d rfl lay3 rfl rfl rfl | exact load_box rfl lay3 rfl rfl rfl) ?_
            refine s_yes rfl rfl rfl ?_
            refine s_rd _ rfl (cmp_int rfl rfl rfl rfl) ?_
            refine s_yes rfl rfl rfl ?_
            refine s_rd _ rfl (mv_d (.inl rfl) rfl) ?_
            refine s_split 44 rfl (fun h31 => ?_) (fun h31 => ?_)
            · refine s_no rfl rfl rfl rfl ?_
              refine s_no rfl rfl rfl rfl ?_
              refine s_no rfl rfl rfl rfl ?_
              refine s_yes rfl rfl rfl ?_
              refine s_rd _ rfl (by first | exact pick_Td rfl rfl rfl | exact pick_T rfl rfl rfl) ?_
              refine s_yes rfl rfl rfl ?_
              refine s_rd _ rfl (by first | exact pick_Td rfl rfl rfl | exact pick_T rfl rfl rfl) ?_
              refine s_rd _ rfl (by first | exact pick_Fd rfl rfl rfl | exact pick_F rfl rfl rfl) ?_
              refine tops_nil ?_
              refine twp_norm [2, 3, 50] (sub_mptr rfl (sub_mptr rfl (sub_d rfl .nil))) (blk_box rfl (blk_box rfl (blk_nil rfl))) ?_
              refine twp_cond true rfl (fun _ => ?_) (fun h => by cases h)
              refine twp_rseq ?_
              refine s_rd _ rfl (mv_d (.inr rfl) rfl) ?_
              refine tops_nil ?_
              refine twp_norm [4] (sub_d rfl .nil) (blk_box rfl (blk_box rfl (blk_nil rfl))) ?_
              refine twp_ret ?_
              refine way_thenRet ?_
              exact Ends.plainB _ rfl (by grind [Prg.right])
            · refine s_yes rfl rfl rfl ?_
              refine s_rd _ rfl (fieldAddr_mptr rfl fld50_2 rfl rfl) ?_
              refine s_yes rfl rfl rfl ?_
              refine s_rd _ rfl (by first | exact load_box_d rfl lay3 rfl rfl rfl | exact load_box rfl lay3 rfl rfl rfl) ?_
              refine s_yes rfl rfl rfl ?_
              refine s_rd _ rfl (cmp_int rfl rfl rfl rfl) ?_
              refine s_yes rfl rfl rfl ?_
              refine s_rd _ rfl (by first | exact pick_Fd rfl rfl rfl | exact pick_F rfl rfl rfl) ?_
              refine s_yes rfl rfl rfl ?_
              refine s_rd _ rfl (by first | exact pick_Td rfl rfl rfl | exact pick_T rfl rfl rfl) ?_
              refine s_rd _ rfl (by first | exact pick_Fd rfl rfl rfl | exact pick_F rfl rfl rfl) ?_
              refine tops_nil ?_
              refine twp_norm [2, 3, 50] (sub_mptr rfl (sub_mptr rfl (sub_d rfl .nil))) (blk_box rfl (blk_box rfl (blk_nil rfl))) ?_
              refine twp_cond _ rfl (fun h33 => ?_) (fun h33 => ?_)
              · refine twp_rseq ?_
                refine s_rd _ rfl (mv_d (.inr rfl) rfl) ?_
                refine tops_nil ?_
                refine twp_norm [4] (sub_d rfl .nil) (blk_box rfl (blk_box rfl (blk_nil rfl))) ?_
                refine twp_ret ?_
                refine way_thenRet ?_
                exact Ends.plainB _ rfl (by grind [Prg.right])
              · refine twp_skip ?_
                refine way_then ?_
                refine twp_norm [2, 3] (sub_mptr rfl (sub_mptr rfl .nil)) (blk_box rfl (blk_box rfl (blk_nil rfl))) ?_
                refine twp_rseq ?_
                refine s_rd _ rfl (fieldAddr_mptr rfl fld50_3 rfl rfl) ?_
                refine s_rd _ rfl (by first | exact load_boxA_d rfl lay47 rfl rfl (Nat.le_of_ble_eq_true rfl) rfl | exact load_boxA rfl lay47 rfl rfl (Nat.le_of_ble_eq_true rfl) rfl) ?_
                refine s_rd _ rfl (fieldAddr_mptr rfl fld25_0 rfl rfl) ?_
                refine s_rd _ rfl (by first | exact load_box_d rfl lay22 rfl rfl rfl | exact load_box rfl lay22 rfl rfl rfl) ?_
                refine s_rd _ rfl (by first | exact len_d rfl sel22 rfl (by first | exact List.length_map _ | rfl) | exact len_msl rfl sel22 rfl | exact len_nil rfl sel22 rfl) ?_
                refine s_rd _ rfl (rd_callRN rfl rfl (by repeat (first | exact snaps_nil | refine snaps_cons (.d _) ?_ | refine snaps_cons (snap_full rfl (by simp)) ?_ | refine snaps_cons (snap_full rfl rfl) ?_ | refine snaps_cons (snap_boxD rfl rfl) ?_ | refine snaps_cons (snap_agg (by repeat (first | exact SnapsO.nil | refine SnapsO.cons (Snap.d _) rfl ?_ | refine SnapsO.cons (snap_full rfl rfl) rfl ?_))) ?_)) (validR_n r.expr (p.names.length : Int) hs hr.expr)) ?_
                refine s_rd _ rfl (mv_d (.inr rfl) rfl) ?_
                refine tops_nil ?_
                refine twp_norm [4] (sub_d rfl .nil) (blk_box rfl (blk_box rfl (blk_nil rfl))) ?_
                refine twp_ret ?_
                exact Ends.plainB _ rfl (by grind [Prg.right])
          · refine s_no rfl rfl rfl rfl ?_
            refine s_no rfl rfl rfl rfl ?_
            refine s_no rfl rfl rfl rfl ?_
            refine s_no rfl rfl rfl rfl ?_
            refine s_nor rfl rfl rfl ?_
            refine s_nor rfl rfl rfl ?_
            refine s_nor rfl rfl rfl ?_
            refine s_no rfl rfl rfl rfl ?_
            refine s_yes rfl rfl rfl ?_
            refine s_rd _ rfl (by first | exact pick_Fd rfl rfl rfl | exact pick_F rfl rfl rfl) ?_
            refine s_rd _ rfl (by first | exact pick_Fd rfl rfl rfl | exact pick_F rfl rfl rfl) ?_
            refine tops_nil ?_
            refine twp_norm [2, 3, 50] (sub_mptr rfl (sub_mptr rfl (sub_d rfl .nil))) (blk_box rfl (blk_box rfl (blk_nil rfl))) ?_
            refine twp_cond false rfl (fun h => by cases h) (fun _ => ?_)
            refine twp_skip ?_
            refine way_then ?_
            refine twp_norm [2, 3] (sub_mptr rfl (sub_mptr rfl .nil)) (blk_box rfl (blk_box rfl (blk_nil rfl))) ?_
            refine twp_rseq ?_
            refine s_rd _ rfl (fieldAddr_mptr rfl fld50_3 rfl rfl) ?_
            refine s_rd _ rfl (by first | exact load_boxA_d rfl lay47 rfl rfl (Nat.le_of_ble_eq_true rfl) rfl | exact load_boxA rfl lay47 rfl rfl (Nat.le_of_ble_eq_true rfl) rfl) ?_
            refine s_rd _ rfl (fieldAddr_mptr rfl fld25_0 rfl rfl) ?_
            refine s_rd _ rfl (by first | exact load_box_d rfl lay22 rfl rfl rfl | exact load_box rfl lay22 rfl rfl rfl) ?_
            refine s_rd _ rfl (by first | exact len_d rfl sel22 rfl (by first | exact List.length_map _ | rfl) | exact len_msl rfl sel22 rfl | exact len_nil rfl sel22 rfl) ?_
            refine s_rd _ rfl (rd_callRN rfl rfl (by repeat (first | exact snaps_nil | refine snaps_cons (.d _) ?_ | refine snaps_cons (snap_full rfl (by simp)) ?_ | refine snaps_cons (snap_full rfl rfl) ?_ | refine snaps_cons (snap_boxD rfl rfl) ?_ | refine snaps_cons (snap_agg (by repeat (first | exact SnapsO.nil | refine SnapsO.cons (Snap.d _) rfl ?_ | refine SnapsO.cons (snap_full rfl rfl) rfl ?_))) ?_)) (validR_n r.expr (p.names.length : Int) hs hr.expr)) ?_
            refine s_rd _ rfl (mv_d (.inr rfl) rfl) ?_
            refine tops_nil ?_
            refine twp_norm [4] (sub_d rfl .nil) (blk_box rfl (blk_box rfl (blk_nil rfl))) ?_
            refine twp_ret ?_
            exact Ends.plainB _ rfl (by grind [Prg.right])

theorem rightP_n (p : Prg) (r : Rung) (hr : r.Wf) : RetN Try.prog 28 [p.enc, r.enc] (.bool (p.right r)) := .unit (rightP_step p r hr) rfl
theorem rightR_n (p : Prg) (r : Rung) (hs : r.expr.size ≤ 1000000) (hr : r.Wf) : RetN Try.prog 29 [p.enc, r.enc] (.bool (p.right r)) := .unit (rightR_step p r hs hr) rfl

end Go.Proofs.Yteedddlipoonoaa
