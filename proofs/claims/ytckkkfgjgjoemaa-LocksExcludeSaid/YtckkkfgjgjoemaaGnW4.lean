/- The functions return what their models yield. No condition. -/
import Derived.Test.YtckkkfgjgjoemaaGnU
import Derived.Test.YtckkkfgjgjoemaaGnM
import Derived.Test.YtckkkfgjgjoemaaGnW3
set_option maxHeartbeats 400000
set_option linter.unusedSimpArgs false
set_option linter.unusedVariables false
set_option maxRecDepth 20000
namespace Go.Proofs.Ytckkkfgjgjoemaa
open Go Go.TL

theorem locks_Sound_c {p0 : Table} {p1 : Inter} {r : Bool} (hm : locks_Sound p0 p1 = some r) : RetN Try.prog 19 [p0.enc, p1.enc] (.bool (r)) := by
  refine .unit (ret_bodyS callB19 Try.func19 rfl Try.ntmps19 rfl rfl (fun wX gX => ?_)) rfl
  unfold locks_Sound at hm
  refine w_norm [0, 1] rfl rfl ?_
  refine twp_rseq ?_
  refine s_bx 0 rfl rfl rfl ?_
  refine s_bx 1 rfl rfl rfl ?_
  refine s_a tab_ok rfl ?_
  refine tops_nil ?_
  refine w_norm [2, 3] rfl rfl ?_
  refine twp_seq ?_
  refine twp_rseq ?_
  iterate 2 (refine s_a tab_ok rfl ?_)
  obtain ⟨r1, hr1, hm⟩ := bind_inv hm
  refine s_x rfl rfl (rd_callRN rfl rfl (snaps_cons (.d _) (snaps_cons (.d _) snaps_nil)) (locks_fits_c hr1)) ?_
  refine s_a tab_ok rfl ?_
  refine tops_nil ?_
  refine w_norm [2, 3, 17] rfl rfl ?_
  refine twp_cond _ rfl (fun h2 => ?_) (fun h2 => ?_)
  · replace hm := iteB_T h2 hm
    refine twp_rseq ?_
    refine s_a tab_ok rfl ?_
    refine tops_nil ?_
    refine w_norm [4] rfl rfl ?_
    refine twp_ret ?_
    refine way_thenRet ?_
    obtain rfl := Option.some.inj hm
    exact EndsS.one _ rfl (.d _) (.refl _)
  · replace hm := iteB_F h2 hm
    refine twp_skip ?_
    refine way_then ?_
    refine w_norm [2, 3] rfl rfl ?_
    refine twp_rseq ?_
    refine s_nilO (f := (fun (l : List A2_int) => D.sl 2 (l.map A2_int.enc))) 2 57 1 rfl rfl rfl ?_
    refine tops_nil ?_
    refine w_norm [2, 3, 5] rfl rfl ?_
    refine w_joinM hm (fun b3 => ([(5, .msl 2 1 0 b3.length)] : Fr)) (fun b3 => ([(2, .flat 57 1 (b3.map (fun (l : List A2_int) => D.sl 2 (l.map A2_int.enc))))] : List (Nat × Blk))) [5] [2, 3] rfl (fun z4 hm => ?_) (fun b3 hm => ?_)
    · refine twp_rseq ?_
      iterate 2 (refine s_a tab_ok rfl ?_)
      refine s_x rfl rfl (x_len tab_ok rfl rfl rfl) ?_
      refine s_a tab_ok rfl ?_
      refine tops_nil ?_
      refine w_norm [2, 3, 5, 19, 20, 21] rfl rfl ?_
      refine twp_block ?_
      refine w_loop hm (fun (x8, b9) => ([(5, .msl 2 1 0 b9.length), (21, .d (.int .i64 x8))] : Fr)) (fun (x8, b9) => ([(2, .flat 57 1 (b9.map (fun (l : List A2_int) => D.sl 2 (l.map A2_int.enc))))] : List (Nat × Blk))) [5, 21] [2, 3, 19, 20] [0, 1, 2] rfl k0 rfl rfl rfl rfl rfl (fun s z10 hm hz10 => ?_)
      obtain ⟨x8, b9⟩ := s
      refine w_norm [2, 3, 5, 19, 20, 21] rfl rfl ?_
      refine twp_rseq ?_
      refine s_a tab_ok rfl ?_
      refine tops_nil ?_
      refine w_norm [2, 3, 5, 19, 20, 21, 22] rfl rfl ?_
      refine twp_seq ?_
      refine twp_cond _ rfl (fun h11 => ?_) (fun h11 => ?_)
      · replace hm := ite_T h11 hm
        refine twp_skip ?_
        refine way_then ?_
        refine w_norm [2, 3, 5, 19, 20, 21] rfl rfl ?_
        refine twp_seq ?_
        refine twp_block ?_
        refine twp_rseq ?_
        refine s_a tab_ok rfl ?_
        obtain ⟨e12, he12, hm⟩ := get_inv hm
        refine s_x rfl rfl (x_ix tab_ok rfl rfl rfl rfl he12) ?_
        refine s_a tab_ok rfl ?_
        refine s_al 3 rfl rfl zero48 rfl ?_
        refine s_wkb 3 [none, none, none, some 3, some 2, some 1, none, none, some 3, some 2, some 1, some 2, some 1, some 2] rfl rfl ?_
        iterate 2 (refine s_a tab_ok rfl ?_)
        refine tops_nil ?_
        refine w_norm [2, 3, 5, 6, 7, 19, 20, 21] rfl rfl ?_
        refine twp_draw follows  ?_
        iterate 5 (refine d_a [0, 1, 2, 3] tab_ok rfl ?_)
        obtain ⟨e13, he13, hm⟩ := get_inv hm
        refine d_x [0, 1, 2, 3] rfl rfl (x_ix tab_ok rfl rfl rfl rfl he13) ?_
        refine d_a [0, 1, 2, 3] tab_ok rfl ?_
        obtain ⟨r14, hr14, hm⟩ := bind_inv hm
        refine d_x [0, 1, 2, 3] rfl rfl (rd_callRD rfl rfl rfl (locks_locked_c hr14)) ?_
        refine d_x [0, 1, 2, 3] rfl rfl (x_lit [.tmp 33] tab_ok rfl rfl zero57 rfl rfl rfl rfl rfl) ?_
        refine d_tail ?_ (by kernel_rfl)
        obtain ⟨g15, hm⟩ := guard_inv hm
        refine s_app (f := (fun (l : List A2_int) => D.sl 2 (l.map A2_int.enc))) ([r14] : List (List A2_int)) tab_ok rfl rfl zero57 rfl rfl rfl rfl rfl (fun h => absurd h (Nat.not_lt_zero _)) rfl src_d g15 rfl rfl ?_
        refine s_a tab_ok rfl ?_
        refine tops_nil ?_
        refine way_block ?_
        refine way_then ?_
        refine w_norm [2, 3, 5, 19, 20, 21] rfl rfl ?_
        refine twp_region ?_
        obtain ⟨g16, hm⟩ := guard_inv hm
        refine s_x rfl rfl (x_ar rfl rfl rfl rfl g16) ?_
        refine s_a tab_ok rfl ?_
        refine tops_nil ?_
        refine way_then ?_
        exact ⟨_, [0, 1, 2], (Option.some.inj hm).symm, rfl, k0, rfl⟩
      · replace hm := ite_F h11 hm
        refine twp_exit ?_
        refine way_thenExit ?_
        obtain ⟨v17, hm, hz⟩ := inr_inv hm
        rw [hz10 _ hz] at hm
        refine way_thenExit ?_
        refine way_here ?_
        refine way_then ?_
        exact ⟨_, [0, 1, 2], (Option.some.inj hm).symm, rfl, k0, rfl⟩
    · refine w_norm [2, 3, 5] rfl rfl ?_
      refine w_joinS hm (fun _ => ([] : Fr)) (fun _ => ([] : List (Nat × Blk))) [] [2, 3] rfl (fun z18 hm hz18 => ?_) (fun j hm => ?_)
      · refine twp_rseq ?_
        iterate 2 (refine s_a tab_ok rfl ?_)
        refine s_x rfl rfl (x_len tab_ok rfl rfl rfl) ?_
        refine s_a tab_ok rfl ?_
        refine tops_nil ?_
        refine w_norm [2, 3, 5, 39, 40] rfl rfl ?_
        refine twp_block ?_
        refine w_loop hm (fun x20 => ([(40, .d (.int .i64 x20))] : Fr)) (fun x20 => ([] : List (Nat × Blk))) [40] [2, 3, 5, 39] [0, 1, 2] rfl k0 rfl rfl rfl rfl rfl (fun x20 z21 hm hz21 => ?_)
        refine w_norm [2, 3, 5, 39, 40] rfl rfl ?_
        refine twp_rseq ?_
        refine s_a tab_ok rfl ?_
        refine tops_nil ?_
        refine w_norm [2, 3, 5, 39, 40, 41] rfl rfl ?_
        refine twp_seq ?_
        refine twp_cond _ rfl (fun h22 => ?_) (fun h22 => ?_)
        · replace hm := ite_T h22 hm
          refine twp_skip ?_
          refine way_then ?_
          refine w_norm [2, 3, 5, 39, 40] rfl rfl ?_
          refine w_joinS hm (fun _ => ([] : Fr)) (fun _ => ([] : List (Nat × Blk))) [] [2, 3, 5, 39, 40] rfl (fun z23 hm hz23 => ?_) (fun j hm => ?_)
          · refine twp_block ?_
            refine twp_rseq ?_
            iterate 2 (refine s_a tab_ok rfl ?_)
            refine tops_nil ?_
            refine w_norm [2, 3, 5, 8, 39, 40] rfl rfl ?_
            refine twp_rseq ?_
            iterate 2 (refine s_a tab_ok rfl ?_)
            refine tops_nil ?_
            refine w_norm [2, 3, 5, 8, 39, 40, 43, 44] rfl rfl ?_
            refine twp_block ?_
            refine w_loop hm (fun x25 => ([(44, .d (.int .i64 x25))] : Fr)) (fun x25 => ([] : List (Nat × Blk))) [44] [2, 3, 5, 8, 39, 40, 43] [0, 1, 2] rfl k0 rfl rfl rfl rfl rfl (fun x25 z26 hm hz26 => ?_)
            refine w_norm [2, 3, 5, 8, 39, 40, 43, 44] rfl rfl ?_
            refine twp_rseq ?_
            refine s_a tab_ok rfl ?_
            refine tops_nil ?_
            refine w_norm [2, 3, 5, 8, 39, 40, 43, 44, 45] rfl rfl ?_
            refine twp_seq ?_
            refine twp_cond _ rfl (fun h27 => ?_) (fun h27 => ?_)
            · replace hm := ite_T h27 hm
              refine twp_skip ?_
              refine way_then ?_
              refine w_norm [2, 3, 5, 8, 39, 40, 43, 44] rfl rfl ?_
              refine twp_seq ?_
              refine twp_block ?_
              refine twp_rseq ?_
              iterate 2 (refine s_a tab_ok rfl ?_)
              refine tops_nil ?_
              refine w_norm [2, 3, 5, 8, 9, 39, 40, 43, 44] rfl rfl ?_
              refine twp_dseq follows  ?_
              iterate 3 (refine d_a [0, 1, 2] tab_ok rfl ?_)
              obtain ⟨e28, he28, hm⟩ := get_inv hm
              refine d_x [0, 1, 2] rfl rfl (x_ix tab_ok rfl rfl rfl rfl he28) ?_
              iterate 4 (refine d_a [0, 1, 2] tab_ok rfl ?_)
              obtain ⟨e29, he29, hm⟩ := get_inv hm
              refine d_x [0, 1, 2] rfl rfl (x_ix tab_ok rfl rfl rfl rfl he29) ?_
              iterate 3 (refine d_a [0, 1, 2] tab_ok rfl ?_)
              obtain ⟨e30, he30, hm⟩ := get_inv hm
              refine d_x [0, 1, 2] rfl rfl (x_ixo tab_ok rfl rfl rfl rfl he30 rfl) ?_
              refine d_x [0, 1, 2] rfl rfl (x_ldo tab_ok rfl rfl rfl rfl he30.2 rfl) ?_
              iterate 2 (refine d_a [0, 1, 2] tab_ok rfl ?_)
              obtain ⟨e31, he31, hm⟩ := get_inv hm
              refine d_x [0, 1, 2] rfl rfl (x_ixo tab_ok rfl rfl rfl rfl he31 rfl) ?_
              refine d_x [0, 1, 2] rfl rfl (x_ldo tab_ok rfl rfl rfl rfl he31.2 rfl) ?_
              obtain ⟨r32, hr32, hm⟩ := bind_inv hm
              refine d_x [0, 1, 2] rfl rfl (rd_callRN rfl rfl (snaps_cons (.d _) (snaps_cons (.d _) (snaps_cons (.d _) (snaps_cons (.d _) snaps_nil)))) (locks_clash_c hr32)) ?_
              refine d_tail ?_ (by kernel_rfl)
              refine tops_nil ?_
              refine w_norm [2, 3, 5, 8, 39, 40, 43, 44, 65] rfl rfl ?_
              refine twp_cond _ rfl (fun h33 => ?_) (fun h33 => ?_)
              · replace hm := iteB_T h33 hm
                refine twp_rseq ?_
                refine s_a tab_ok rfl ?_
                refine tops_nil ?_
                refine w_norm [4] rfl rfl ?_
                refine twp_ret ?_
                refine way_blockRet ?_
                refine way_thenRet ?_
                obtain ⟨v34, hm, hz⟩ := inr_inv hm
                rw [hz26 _ hz] at hm
                refine way_thenRet ?_
                refine way_blockRet ?_
                refine way_blockRet ?_
                obtain ⟨v35, hm, hz⟩ := inr_inv hm
                rw [hz23 _ hz] at hm
                refine way_thenRet ?_
                obtain ⟨v36, hm, hz⟩ := inr_inv hm
                rw [hz21 _ hz] at hm
                refine way_thenRet ?_
                refine way_blockRet ?_
                obtain ⟨v37, hm, hz⟩ := inr_inv hm
                rw [hz18 _ hz] at hm
                refine way_thenRet ?_
                obtain rfl := Option.some.inj hm
                exact EndsS.one _ rfl (.d _) (.refl _)
              · replace hm := iteB_F h33 hm
                refine twp_skip ?_
                refine way_block ?_
                refine way_then ?_
                refine w_norm [2, 3, 5, 8, 39, 40, 43, 44] rfl rfl ?_
                refine twp_region ?_
                obtain ⟨g38, hm⟩ := guard_inv hm
                refine s_x rfl rfl (x_ar rfl rfl rfl rfl g38) ?_
                refine s_a tab_ok rfl ?_
                refine tops_nil ?_
                refine way_then ?_
                exact ⟨_, [0, 1, 2], (Option.some.inj hm).symm, rfl, k0, rfl⟩
            · replace hm := ite_F h27 hm
              refine twp_exit ?_
              refine way_thenExit ?_
              obtain ⟨v39, hm, hz⟩ := inr_inv hm
              rw [hz26 _ hz] at hm
              refine way_thenExit ?_
              refine way_here ?_
              refine way_block ?_
              refine way_then ?_
              exact ⟨_, [0, 1, 2], (Option.some.inj hm).symm, rfl, k0, rfl⟩
          · refine w_norm [2, 3, 5, 39, 40] rfl rfl ?_
            refine twp_region ?_
            obtain ⟨g40, hm⟩ := guard_inv hm
            refine s_x rfl rfl (x_ar rfl rfl rfl rfl g40) ?_
            refine s_a tab_ok rfl ?_
            refine tops_nil ?_
            refine way_then ?_
            exact ⟨_, [0, 1, 2], (Option.some.inj hm).symm, rfl, k0, rfl⟩
        · replace hm := ite_F h22 hm
          refine twp_exit ?_
          refine way_thenExit ?_
          obtain ⟨v41, hm, hz⟩ := inr_inv hm
          rw [hz21 _ hz] at hm
          refine way_thenExit ?_
          refine way_here ?_
          refine way_then ?_
          exact ⟨_, [0, 1, 2], (Option.some.inj hm).symm, rfl, k0, rfl⟩
      · refine w_norm [2, 3] rfl rfl ?_
        refine w_joinS hm (fun _ => ([] : Fr)) (fun _ => ([] : List (Nat × Blk))) [] [] rfl (fun z42 hm hz42 => ?_) (fun j hm => ?_)
        · refine twp_rseq ?_
          iterate 2 (refine s_a tab_ok rfl ?_)
          refine s_x rfl rfl (x_len tab_ok rfl rfl rfl) ?_
          refine s_a tab_ok rfl ?_
          refine tops_nil ?_
          refine w_norm [2, 3, 69, 70, 71] rfl rfl ?_
          refine twp_block ?_
          refine w_loop hm (fun x44 => ([(71, .d (.int .i64 x44))] : Fr)) (fun x44 => ([] : List (Nat × Blk))) [71] [2, 3, 69, 70] [0, 1, 2] rfl k0 rfl rfl rfl rfl rfl (fun x44 z45 hm hz45 => ?_)
          refine w_norm [2, 3, 69, 70, 71] rfl rfl ?_
          refine twp_rseq ?_
          refine s_a tab_ok rfl ?_
          refine tops_nil ?_
          refine w_norm [2, 3, 69, 70, 71, 72] rfl rfl ?_
          refine twp_seq ?_
          refine twp_cond _ rfl (fun h46 => ?_) (fun h46 => ?_)
          · replace hm := ite_T h46 hm
            refine twp_skip ?_
            refine way_then ?_
            refine w_norm [2, 3, 69, 70, 71] rfl rfl ?_
            refine w_joinS hm (fun _ => ([] : Fr)) (fun _ => ([] : List (Nat × Blk))) [] [2, 3, 69, 70, 71] rfl (fun z47 hm hz47 => ?_) (fun j hm => ?_)
            · refine twp_block ?_
              refine twp_rseq ?_
              refine s_a tab_ok rfl ?_
              obtain ⟨e48, he48, hm⟩ := get_inv hm
              refine s_x rfl rfl (x_ix tab_ok rfl rfl rfl rfl he48) ?_
              refine s_a tab_ok rfl ?_
              refine s_al 3 rfl rfl zero48 rfl ?_
              refine s_wkb 3 [none, none, none, some 3, some 2, some 1, none, none, some 3, some 2, some 1, some 2, some 1, some 2] rfl rfl ?_
              iterate 2 (refine s_a tab_ok rfl ?_)
              refine tops_nil ?_
              refine w_norm [2, 3, 10, 11, 69, 70, 71] rfl rfl ?_
              refine twp_dseq follows  ?_
              iterate 5 (refine d_a [0, 1, 2, 3] tab_ok rfl ?_)
              obtain ⟨e49, he49, hm⟩ := get_inv hm
              refine d_x [0, 1, 2, 3] rfl rfl (x_ix tab_ok rfl rfl rfl rfl he49) ?_
              refine d_a [0, 1, 2, 3] tab_ok rfl ?_
              obtain ⟨r50, hr50, hm⟩ := bind_inv hm
              refine d_x [0, 1, 2, 3] rfl rfl (rd_callRD rfl rfl rfl (locks_bound_c hr50)) ?_
              refine d_x [0, 1, 2, 3] rfl rfl (x_len tab_ok rfl rfl rfl) ?_
              refine d_a [0, 1, 2, 3] tab_ok rfl ?_
              refine d_tail ?_ (by kernel_rfl)
              refine tops_nil ?_
              refine w_norm [2, 3, 69, 70, 71, 83, 84, 85] rfl rfl ?_
              refine twp_block ?_
              refine w_loop hm (fun x52 => ([(85, .d (.int .i64 x52))] : Fr)) (fun x52 => ([] : List (Nat × Blk))) [85] [2, 3, 69, 70, 71, 83, 84] [0, 1, 2] rfl k0 rfl rfl rfl rfl rfl (fun x52 z53 hm hz53 => ?_)
              refine w_norm [2, 3, 69, 70, 71, 83, 84, 85] rfl rfl ?_
              refine twp_rseq ?_
              refine s_a tab_ok rfl ?_
              refine tops_nil ?_
              refine w_norm [2, 3, 69, 70, 71, 83, 84, 85, 86] rfl rfl ?_
              refine twp_seq ?_
              refine twp_cond _ rfl (fun h54 => ?_) (fun h54 => ?_)
              · replace hm := ite_T h54 hm
                refine twp_skip ?_
                refine way_then ?_
                refine w_norm [2, 3, 69, 70, 71, 83, 84, 85] rfl rfl ?_
                refine twp_seq ?_
                refine twp_block ?_
                refine twp_rseq ?_
                obtain ⟨e55, he55, hm⟩ := get_inv hm
                refine s_x rfl rfl (x_ix tab_ok rfl rfl rfl rfl he55) ?_
                refine s_a tab_ok rfl ?_
                refine s_al 3 rfl rfl zero54 rfl ?_
                refine s_a tab_ok rfl ?_
                refine tops_nil ?_
                refine w_norm [2, 3, 13, 69, 70, 71, 83, 84, 85] rfl rfl ?_
                refine twp_dseq follows  ?_
                iterate 5 (refine d_a [0, 1, 2, 3] tab_ok rfl ?_)
                obtain ⟨r56, hr56, hm⟩ := bind_inv hm
                refine d_x [0, 1, 2, 3] rfl rfl (rd_callRN rfl rfl (snaps_cons (.d _) (snaps_cons (.d _) snaps_nil)) (table_Index_c hr56)) ?_
                obtain ⟨e57, he57, hm⟩ := get_inv hm
                refine d_x [0, 1, 2, 3] rfl rfl (x_ix tab_ok rfl rfl rfl rfl he57) ?_
                iterate 4 (refine d_a [0, 1, 2, 3] tab_ok rfl ?_)
                refine d_tail ?_ (by kernel_rfl)
                refine tops_nil ?_
                refine w_norm [2, 3, 69, 70, 71, 83, 84, 85, 99] rfl rfl ?_
                refine twp_cond _ rfl (fun h58 => ?_) (fun h58 => ?_)
                · replace hm := iteN_T h58 hm
                  refine twp_rseq ?_
                  refine s_a tab_ok rfl ?_
                  refine tops_nil ?_
                  refine w_norm [4] rfl rfl ?_
                  refine twp_ret ?_
                  refine way_blockRet ?_
                  refine way_thenRet ?_
                  obtain ⟨v59, hm, hz⟩ := inr_inv hm
                  rw [hz53 _ hz] at hm
                  refine way_thenRet ?_
                  refine way_blockRet ?_
                  refine way_blockRet ?_
                  obtain ⟨v60, hm, hz⟩ := inr_inv hm
                  rw [hz47 _ hz] at hm
                  refine way_thenRet ?_
                  obtain ⟨v61, hm, hz⟩ := inr_inv hm
                  rw [hz45 _ hz] at hm
                  refine way_thenRet ?_
                  refine way_blockRet ?_
                  obtain ⟨v62, hm, hz⟩ := inr_inv hm
                  rw [hz42 _ hz] at hm
                  refine way_thenRet ?_
                  obtain rfl := Option.some.inj hm
                  exact EndsS.one _ rfl (.d _) (.refl _)
                · replace hm := iteN_F h58 hm
                  refine twp_skip ?_
                  refine way_block ?_
                  refine way_then ?_
                  refine w_norm [2, 3, 69, 70, 71, 83, 84, 85] rfl rfl ?_
                  refine twp_region ?_
                  obtain ⟨g63, hm⟩ := guard_inv hm
                  refine s_x rfl rfl (x_ar rfl rfl rfl rfl g63) ?_
                  refine s_a tab_ok rfl ?_
                  refine tops_nil ?_
                  refine way_then ?_
                  exact ⟨_, [0, 1, 2], (Option.some.inj hm).symm, rfl, k0, rfl⟩
              · replace hm := ite_F h54 hm
                refine twp_exit ?_
                refine way_thenExit ?_
                obtain ⟨v64, hm, hz⟩ := inr_inv hm
                rw [hz53 _ hz] at hm
                refine way_thenExit ?_
                refine way_here ?_
                refine way_block ?_
                refine way_then ?_
                exact ⟨_, [0, 1, 2], (Option.some.inj hm).symm, rfl, k0, rfl⟩
            · refine w_norm [2, 3, 69, 70, 71] rfl rfl ?_
              refine twp_region ?_
              obtain ⟨g65, hm⟩ := guard_inv hm
              refine s_x rfl rfl (x_ar rfl rfl rfl rfl g65) ?_
              refine s_a tab_ok rfl ?_
              refine tops_nil ?_
              refine way_then ?_
              exact ⟨_, [0, 1, 2], (Option.some.inj hm).symm, rfl, k0, rfl⟩
          · replace hm := ite_F h46 hm
            refine twp_exit ?_
            refine way_thenExit ?_
            obtain ⟨v66, hm, hz⟩ := inr_inv hm
            rw [hz45 _ hz] at hm
            refine way_thenExit ?_
            refine way_here ?_
            refine way_then ?_
            exact ⟨_, [0, 1, 2], (Option.some.inj hm).symm, rfl, k0, rfl⟩
        · refine w_norm [] rfl rfl ?_
          refine twp_rseq ?_
          refine s_a tab_ok rfl ?_
          refine tops_nil ?_
          refine w_norm [4] rfl rfl ?_
          refine twp_ret ?_
          obtain rfl := Option.some.inj hm
          exact EndsS.one _ rfl (.d _) (.refl _)

theorem locks_restrictive_c {p0 : (List Bool)} {p1 : Int} {r : Bool} (hm : locks_restrictive p0 p1 = some r) : RetN Try.prog 39 [.sl 1 (p0.map D.bool), .int .i64 p1] (.bool (r)) := by
  refine .unit (ret_bodyS callB39 Try.func39 rfl Try.ntmps39 rfl rfl (fun wX gX => ?_)) rfl
  unfold locks_restrictive at hm
  refine w_norm [0, 1] rfl rfl ?_
  refine twp_rseq ?_
  refine s_a tab_ok rfl ?_
  refine tops_nil ?_
  refine w_norm [0, 1] rfl rfl ?_
  refine w_joinM hm (fun x1 => ([(4, .d (.bool (x1)))] : Fr)) (fun x1 => ([] : List (Nat × Blk))) [4] [] rfl (fun z2 hm => ?_) (fun x1 hm => ?_)
  · refine twp_region ?_
    iterate 2 (refine s_a tab_ok rfl ?_)
    refine s_b tab_ok rfl (fun q3 hq3 => ?_)
    cases q3
    · replace hm := ite_F hq3 hm
      iterate 2 (refine s_a tab_ok rfl ?_)
      refine s_x rfl rfl (x_len tab_ok rfl rfl rfl) ?_
      iterate 2 (refine s_a tab_ok rfl ?_)
      refine s_b tab_ok rfl (fun q4 hq4 => ?_)
      cases q4
      · replace hm := ite_F hq4 hm
        iterate 2 (refine s_a tab_ok rfl ?_)
        obtain ⟨e5, he5, hm⟩ := get_inv hm
        refine s_x rfl rfl (x_ix tab_ok rfl rfl rfl rfl he5) ?_
        iterate 3 (refine s_a tab_ok rfl ?_)
        refine tops_nil ?_
        refine way_then ?_
        exact ⟨_, [], (Option.some.inj hm).symm, rfl, k0, rfl⟩
      · replace hm := ite_T hq4 hm
        iterate 6 (refine s_a tab_ok rfl ?_)
        refine tops_nil ?_
        refine way_then ?_
        exact ⟨_, [], (Option.some.inj hm).symm, rfl, k0, rfl⟩
    · replace hm := ite_T hq3 hm
      iterate 12 (refine s_a tab_ok rfl ?_)
      refine tops_nil ?_
      refine way_then ?_
      exact ⟨_, [], (Option.some.inj hm).symm, rfl, k0, rfl⟩
  · refine w_norm [4] rfl rfl ?_
    refine twp_ret ?_
    obtain rfl := Option.some.inj hm
    exact EndsS.one _ rfl (.d _) (.refl _)

theorem locks_Free_c {p0 : Table} {p1 : Inter} {p2 : Inputs} {p3 : Int} {r : Int} (hm : locks_Free p0 p1 p2 p3 = some r) : RetN Try.prog 21 [p0.enc, p1.enc, p2.enc, .int .i64 p3] (.int .i64 r) := by
  refine .unit (ret_bodyS callB21 Try.func21 rfl Try.ntmps21 rfl rfl (fun wX gX => ?_)) rfl
  unfold locks_Free at hm
  refine w_norm [0, 1, 2, 3] rfl rfl ?_
  refine twp_rseq ?_
  refine s_bx 0 rfl rfl rfl ?_
  refine s_bx 1 rfl rfl rfl ?_
  refine s_bx 2 rfl rfl rfl ?_
  refine s_a tab_ok rfl ?_
  refine tops_nil ?_
  refine w_norm [3, 4, 5, 6] rfl rfl ?_
  refine twp_seq ?_
  refine w_joinM hm (fun x1 => ([(35, .d (.bool (x1)))] : Fr)) (fun x1 => ([] : List (Nat × Blk))) [35] [3, 4, 5, 6] rfl (fun z2 hm => ?_) (fun x1 hm => ?_)
  · refine twp_region ?_
    iterate 2 (refine s_a tab_ok rfl ?_)
    obtain ⟨r3, hr3, hm⟩ := bind_inv hm
    refine s_x rfl rfl (rd_callRN rfl rfl (snaps_cons (.d _) (snaps_cons (.d _) snaps_nil)) (locks_Sound_c hr3)) ?_
    refine s_a tab_ok rfl ?_
    refine s_b tab_ok rfl (fun q4 hq4 => ?_)
    cases q4
    · replace hm := iteB_F hq4 hm
      iterate 3 (refine s_a tab_ok rfl ?_)
      refine s_b tab_ok rfl (fun q5 hq5 => ?_)
      cases q5
      · replace hm := ite_F hq5 hm
        iterate 3 (refine s_a tab_ok rfl ?_)
        refine s_x rfl rfl (x_len tab_ok rfl rfl rfl) ?_
        iterate 2 (refine s_a tab_ok rfl ?_)
        refine tops_nil ?_
        refine way_then ?_
        exact ⟨_, [0, 1, 2], (Option.some.inj hm).symm, rfl, k0, rfl⟩
      · replace hm := ite_T hq5 hm
        iterate 6 (refine s_a tab_ok rfl ?_)
        refine tops_nil ?_
        refine way_then ?_
        exact ⟨_, [0, 1, 2], (Option.some.inj hm).symm, rfl, k0, rfl⟩
    · replace hm := iteB_T hq4 hm
      iterate 10 (refine s_a tab_ok rfl ?_)
      refine tops_nil ?_
      refine way_then ?_
      exact ⟨_, [0, 1, 2], (Option.some.inj hm).symm, rfl, k0, rfl⟩
  · refine w_norm [3, 4, 5, 6, 35] rfl rfl ?_
    refine twp_cond _ rfl (fun h6 => ?_) (fun h6 => ?_)
    · replace hm := iteB_T h6 hm
      refine twp_rseq ?_
      refine s_a tab_ok rfl ?_
      refine tops_nil ?_
      refine w_norm [8] rfl rfl ?_
      refine twp_ret ?_
      refine way_thenRet ?_
      obtain rfl := Option.some.inj hm
      exact EndsS.one _ rfl (.d _) (.refl _)
    · replace hm := iteB_F h6 hm
      refine twp_skip ?_
      refine way_then ?_
      refine w_norm [3, 4, 5, 6] rfl rfl ?_
      refine twp_seq ?_
      refine twp_rseq ?_
      iterate 3 (refine s_a tab_ok rfl ?_)
      obtain ⟨e7, he7, hm⟩ := get_inv hm
      refine s_x rfl rfl (x_ix tab_ok rfl rfl rfl rfl he7) ?_
      iterate 3 (refine s_a tab_ok rfl ?_)
      refine tops_nil ?_
      refine w_norm [3, 4, 5, 6, 42] rfl rfl ?_
      refine twp_cond _ rfl (fun h8 => ?_) (fun h8 => ?_)
      · replace hm := iteN_T h8 hm
        refine twp_rseq ?_
        refine s_a tab_ok rfl ?_
        refine tops_nil ?_
        refine w_norm [8] rfl rfl ?_
        refine twp_ret ?_
        refine way_thenRet ?_
        obtain rfl := Option.some.inj hm
        exact EndsS.one _ rfl (.d _) (.refl _)
      · replace hm := iteN_F h8 hm
        refine twp_skip ?_
        refine way_then ?_
        refine w_norm [3, 4, 5, 6] rfl rfl ?_
        refine twp_rseq ?_
        iterate 3 (refine s_a tab_ok rfl ?_)
        obtain ⟨e9, he9, hm⟩ := get_inv hm
        refine s_x rfl rfl (x_ix tab_ok rfl rfl rfl rfl he9) ?_
        refine s_a tab_ok rfl ?_
        refine s_al 3 rfl rfl zero48 rfl ?_
        refine s_wkb 3 [none, none, none, some 3, some 2, some 1, none, none, some 3, some 2, some 1, some 2, some 1, some 2] rfl rfl ?_
        refine s_a tab_ok rfl ?_
        refine tops_nil ?_
        refine w_norm [3, 4, 5, 6, 9] rfl rfl ?_
        refine twp_rseq ?_
        refine s_a tab_ok rfl ?_
        refine s_x rfl rfl (build_d rfl plc44 zero44 rfl rfl rfl rfl) ?_
        obtain ⟨r10, hr10, hm⟩ := bind_inv hm
        refine s_x rfl rfl (rd_callRD rfl rfl rfl (locks_locked_c hr10)) ?_
        refine s_a tab_ok rfl ?_
        refine tops_nil ?_
        refine w_norm [3, 4, 5, 6, 9, 10] rfl rfl ?_
        refine w_joinS hm (fun _ => ([] : Fr)) (fun _ => ([] : List (Nat × Blk))) [] [3, 4, 5, 6, 9, 10] rfl (fun z11 hm hz11 => ?_) (fun j hm => ?_)
        · refine twp_rseq ?_
          refine s_a tab_ok rfl ?_
          refine s_x rfl rfl (x_len tab_ok rfl rfl rfl) ?_
          refine s_a tab_ok rfl ?_
          refine tops_nil ?_
          refine w_norm [3, 4, 5, 6, 9, 10, 51, 52, 53] rfl rfl ?_
          refine twp_block ?_
          refine w_loop hm (fun x13 => ([(53, .d (.int .i64 x13))] : Fr)) (fun x13 => ([] : List (Nat × Blk))) [53] [3, 4, 5, 6, 9, 10, 51, 52] [0, 1, 2, 3] rfl k0 rfl rfl rfl rfl rfl (fun x13 z14 hm hz14 => ?_)
          refine w_norm [3, 4, 5, 6, 9, 10, 51, 52, 53] rfl rfl ?_
          refine twp_rseq ?_
          refine s_a tab_ok rfl ?_
          refine tops_nil ?_
          refine w_norm [3, 4, 5, 6, 9, 10, 51, 52, 53, 54] rfl rfl ?_
          refine twp_seq ?_
          refine twp_cond _ rfl (fun h15 => ?_) (fun h15 => ?_)
          · replace hm := ite_T h15 hm
            refine twp_skip ?_
            refine way_then ?_
            refine w_norm [3, 4, 5, 6, 9, 10, 51, 52, 53] rfl rfl ?_
            refine twp_seq ?_
            refine twp_block ?_
            refine twp_rseq ?_
            obtain ⟨e16, he16, hm⟩ := get_inv hm
            refine s_x rfl rfl (x_ix tab_ok rfl rfl rfl rfl he16) ?_
            refine s_a tab_ok rfl ?_
            refine s_al 4 rfl rfl zero61 rfl ?_
            refine s_a tab_ok rfl ?_
            refine tops_nil ?_
            refine w_norm [3, 4, 5, 6, 9, 10, 12, 51, 52, 53] rfl rfl ?_
            refine twp_rseq ?_
            iterate 2 (refine s_a tab_ok rfl ?_)
            refine s_x rfl rfl (index_arrC rfl asel61 rfl rfl (by decide) (by decide) rfl) ?_
            refine s_a tab_ok rfl ?_
            obtain ⟨r17, hr17, hm⟩ := bind_inv hm
            refine s_x rfl rfl (rd_callRN rfl rfl (snaps_cons (.d _) (snaps_cons (.d _) snaps_nil)) (locks_restrictive_c hr17)) ?_
            refine tops_nil ?_
            refine w_norm [3, 4, 5, 6, 9, 10, 51, 52, 53, 61] rfl rfl ?_
            refine twp_cond _ rfl (fun h18 => ?_) (fun h18 => ?_)
            · replace hm := iteB_T h18 hm
              refine twp_rseq ?_
              refine s_a tab_ok rfl ?_
              refine tops_nil ?_
              refine w_norm [8] rfl rfl ?_
              refine twp_ret ?_
              refine way_blockRet ?_
              refine way_thenRet ?_
              obtain ⟨v19, hm, hz⟩ := inr_inv hm
              rw [hz14 _ hz] at hm
              refine way_thenRet ?_
              refine way_blockRet ?_
              obtain ⟨v20, hm, hz⟩ := inr_inv hm
              rw [hz11 _ hz] at hm
              refine way_thenRet ?_
              obtain rfl := Option.some.inj hm
              exact EndsS.one _ rfl (.d _) (.refl _)
            · replace hm := iteB_F h18 hm
              refine twp_skip ?_
              refine way_block ?_
              refine way_then ?_
              refine w_norm [3, 4, 5, 6, 9, 10, 51, 52, 53] rfl rfl ?_
              refine twp_region ?_
              obtain ⟨g21, hm⟩ := guard_inv hm
              refine s_x rfl rfl (x_ar rfl rfl rfl rfl g21) ?_
              refine s_a tab_ok rfl ?_
              refine tops_nil ?_
              refine way_then ?_
              exact ⟨_, [0, 1, 2, 3], (Option.some.inj hm).symm, rfl, k0, rfl⟩
          · replace hm := ite_F h15 hm
            refine twp_exit ?_
            refine way_thenExit ?_
            obtain ⟨v22, hm, hz⟩ := inr_inv hm
            rw [hz14 _ hz] at hm
            refine way_thenExit ?_
            refine way_here ?_
            refine way_then ?_
            exact ⟨_, [0, 1, 2, 3], (Option.some.inj hm).symm, rfl, k0, rfl⟩
        · refine w_norm [3, 4, 5, 6, 9, 10] rfl rfl ?_
          refine w_joinS hm (fun _ => ([] : Fr)) (fun _ => ([] : List (Nat × Blk))) [] [3, 4, 5, 6, 9] rfl (fun z23 hm hz23 => ?_) (fun j hm => ?_)
          · refine twp_rseq ?_
            iterate 2 (refine s_a tab_ok rfl ?_)
            refine s_x rfl rfl (x_len tab_ok rfl rfl rfl) ?_
            refine s_a tab_ok rfl ?_
            refine tops_nil ?_
            refine w_norm [3, 4, 5, 6, 9, 10, 64, 65, 66] rfl rfl ?_
            refine twp_block ?_
            refine w_loop hm (fun x25 => ([(66, .d (.int .i64 x25))] : Fr)) (fun x25 => ([] : List (Nat × Blk))) [66] [3, 4, 5, 6, 9, 10, 64, 65] [0, 1, 2, 3] rfl k0 rfl rfl rfl rfl rfl (fun x25 z26 hm hz26 => ?_)
            refine w_norm [3, 4, 5, 6, 9, 10, 64, 65, 66] rfl rfl ?_
            refine twp_rseq ?_
            refine s_a tab_ok rfl ?_
            refine tops_nil ?_
            refine w_norm [3, 4, 5, 6, 9, 10, 64, 65, 66, 67] rfl rfl ?_
            refine twp_seq ?_
            refine twp_cond _ rfl (fun h27 => ?_) (fun h27 => ?_)
            · replace hm := ite_T h27 hm
              refine twp_skip ?_
              refine way_then ?_
              refine w_norm [3, 4, 5, 6, 9, 10, 64, 65, 66] rfl rfl ?_
              refine twp_seq ?_
              refine twp_block ?_
              refine twp_rseq ?_
              refine s_a tab_ok rfl ?_
              obtain ⟨e28, he28, hm⟩ := get_inv hm
              refine s_x rfl rfl (x_ix tab_ok rfl rfl rfl rfl he28) ?_
              refine s_a tab_ok rfl ?_
              refine s_al 4 rfl rfl zero48 rfl ?_
              refine s_wkb 4 [none, none, none, some 3, some 2, some 1, none, none, some 3, some 2, some 1, some 2, some 1, some 2] rfl rfl ?_
              iterate 2 (refine s_a tab_ok rfl ?_)
              refine tops_nil ?_
              refine w_norm [3, 4, 5, 6, 9, 10, 13, 14, 64, 65, 66] rfl rfl ?_
              refine w_joinM hm (fun x29 => ([(86, .d (.bool (x29)))] : Fr)) (fun x29 => ([] : List (Nat × Blk))) [86] [3, 4, 5, 6, 9, 10, 64, 65, 66] rfl (fun z30 hm => ?_) (fun x29 hm => ?_)
              · refine twp_draw follows  ?_
                iterate 3 (refine d_a [0, 1, 2, 3, 4] tab_ok rfl ?_)
                refine d_b [0, 1, 2, 3, 4] tab_ok rfl (fun q31 hq31 => ?_)
                cases q31
                · replace hm := iteN_F hq31 hm
                  iterate 12 (refine d_a [0, 1, 2, 3, 4] tab_ok rfl ?_)
                  refine d_tail ?_ (by kernel_rfl)
                  refine tops_nil ?_
                  refine way_then ?_
                  exact ⟨_, [0, 1, 2, 3, 4], (Option.some.inj hm).symm, rfl, k0, rfl⟩
                · replace hm := iteN_T hq31 hm
                  iterate 7 (refine d_a [0, 1, 2, 3, 4] tab_ok rfl ?_)
                  obtain ⟨e32, he32, hm⟩ := get_inv hm
                  refine d_x [0, 1, 2, 3, 4] rfl rfl (x_ix tab_ok rfl rfl rfl rfl he32) ?_
                  refine d_a [0, 1, 2, 3, 4] tab_ok rfl ?_
                  obtain ⟨r33, hr33, hm⟩ := bind_inv hm
                  refine d_x [0, 1, 2, 3, 4] rfl rfl (rd_callRD rfl rfl rfl (locks_locked_c hr33)) ?_
                  obtain ⟨r34, hr34, hm⟩ := bind_inv hm
                  refine d_x [0, 1, 2, 3, 4] rfl rfl (rd_callRN rfl rfl (snaps_cons (.d _) (snaps_cons (.d _) (snaps_cons (.d _) (snaps_cons (.d _) snaps_nil)))) (locks_clash_c hr34)) ?_
                  refine d_a [0, 1, 2, 3, 4] tab_ok rfl ?_
                  refine d_tail ?_ (by kernel_rfl)
                  refine tops_nil ?_
                  refine way_then ?_
                  exact ⟨_, [0, 1, 2, 3, 4], (Option.some.inj hm).symm, rfl, k0, rfl⟩
              · refine w_norm [3, 4, 5, 6, 9, 10, 64, 65, 66, 86] rfl rfl ?_
                refine twp_cond _ rfl (fun h35 => ?_) (fun h35 => ?_)
                · replace hm := iteB_T h35 hm
                  refine twp_rseq ?_
                  refine s_a tab_ok rfl ?_
                  refine tops_nil ?_
                  refine w_norm [8] rfl rfl ?_
                  refine twp_ret ?_
                  refine way_blockRet ?_
                  refine way_thenRet ?_
                  obtain ⟨v36, hm, hz⟩ := inr_inv hm
                  rw [hz26 _ hz] at hm
                  refine way_thenRet ?_
                  refine way_blockRet ?_
                  obtain ⟨v37, hm, hz⟩ := inr_inv hm
                  rw [hz23 _ hz] at hm
                  refine way_thenRet ?_
                  obtain rfl := Option.some.inj hm
                  exact EndsS.one _ rfl (.d _) (.refl _)
                · replace hm := iteB_F h35 hm
                  refine twp_skip ?_
                  refine way_block ?_
                  refine way_then ?_
                  refine w_norm [3, 4, 5, 6, 9, 10, 64, 65, 66] rfl rfl ?_
                  refine twp_region ?_
                  obtain ⟨g38, hm⟩ := guard_inv hm
                  refine s_x rfl rfl (x_ar rfl rfl rfl rfl g38) ?_
                  refine s_a tab_ok rfl ?_
                  refine tops_nil ?_
                  refine way_then ?_
                  exact ⟨_, [0, 1, 2, 3], (Option.some.inj hm).symm, rfl, k0, rfl⟩
            · replace hm := ite_F h27 hm
              refine twp_exit ?_
              refine way_thenExit ?_
              obtain ⟨v39, hm, hz⟩ := inr_inv hm
              rw [hz26 _ hz] at hm
              refine way_thenExit ?_
              refine way_here ?_
              refine way_then ?_
              exact ⟨_, [0, 1, 2, 3], (Option.some.inj hm).symm, rfl, k0, rfl⟩
          · refine w_norm [3, 4, 5, 6, 9] rfl rfl ?_
            refine twp_rseq ?_
            refine s_a tab_ok rfl ?_
            obtain ⟨r40, hr40, hm⟩ := bind_inv hm
            refine s_x rfl rfl (rd_callRD rfl rfl rfl (table_Settings_c hr40)) ?_
            refine s_a tab_ok rfl ?_
            refine tops_nil ?_
            refine w_norm [3, 4, 5, 6, 15] rfl rfl ?_
            refine w_joinS hm (fun _ => ([] : Fr)) (fun _ => ([] : List (Nat × Blk))) [] [4, 5, 6, 15] rfl (fun z41 hm hz41 => ?_) (fun j hm => ?_)
            · refine twp_rseq ?_
              iterate 2 (refine s_a tab_ok rfl ?_)
              refine s_x rfl rfl (x_len tab_ok rfl rfl rfl) ?_
              refine s_a tab_ok rfl ?_
              refine tops_nil ?_
              refine w_norm [3, 4, 5, 6, 15, 91, 92, 93] rfl rfl ?_
              refine twp_block ?_
              refine w_loop hm (fun x43 => ([(93, .d (.int .i64 x43))] : Fr)) (fun x43 => ([] : List (Nat × Blk))) [93] [3, 4, 5, 6, 15, 91, 92] [0, 1, 2, 3] rfl k0 rfl rfl rfl rfl rfl (fun x43 z44 hm hz44 => ?_)
              refine w_norm [3, 4, 5, 6, 15, 91, 92, 93] rfl rfl ?_
              refine twp_rseq ?_
              refine s_a tab_ok rfl ?_
              refine tops_nil ?_
              refine w_norm [3, 4, 5, 6, 15, 91, 92, 93, 94] rfl rfl ?_
              refine twp_seq ?_
              refine twp_cond _ rfl (fun h45 => ?_) (fun h45 => ?_)
              · replace hm := ite_T h45 hm
                refine twp_skip ?_
                refine way_then ?_
                refine w_norm [3, 4, 5, 6, 15, 91, 92, 93] rfl rfl ?_
                refine twp_seq ?_
                refine twp_block ?_
                refine twp_rseq ?_
                refine s_a tab_ok rfl ?_
                obtain ⟨e46, he46, hm⟩ := get_inv hm
                refine s_x rfl rfl (x_ix tab_ok rfl rfl rfl rfl he46) ?_
                refine s_a tab_ok rfl ?_
                refine s_al 4 rfl rfl zero48 rfl ?_
                refine s_wkb 4 [none, none, none, some 3, some 2, some 1, none, none, some 3, some 2, some 1, some 2, some 1, some 2] rfl rfl ?_
                iterate 2 (refine s_a tab_ok rfl ?_)
                refine tops_nil ?_
                refine w_norm [3, 4, 5, 6, 15, 16, 17, 91, 92, 93] rfl rfl ?_
                refine w_joinM hm (fun x47 => ([(113, .d (.bool (x47)))] : Fr)) (fun x47 => ([] : List (Nat × Blk))) [113] [3, 4, 5, 6, 15, 91, 92, 93] rfl (fun z48 hm => ?_) (fun x47 hm => ?_)
                · refine twp_draw follows  ?_
                  iterate 3 (refine d_a [0, 1, 2, 3, 4] tab_ok rfl ?_)
                  refine d_b [0, 1, 2, 3, 4] tab_ok rfl (fun q49 hq49 => ?_)
                  cases q49
                  · replace hm := iteN_F hq49 hm
                    iterate 12 (refine d_a [0, 1, 2, 3, 4] tab_ok rfl ?_)
                    refine d_tail ?_ (by kernel_rfl)
                    refine tops_nil ?_
                    refine way_then ?_
                    exact ⟨_, [0, 1, 2, 3, 4], (Option.some.inj hm).symm, rfl, k0, rfl⟩
                  · replace hm := iteN_T hq49 hm
                    iterate 6 (refine d_a [0, 1, 2, 3, 4] tab_ok rfl ?_)
                    obtain ⟨e50, he50, hm⟩ := get_inv hm
                    refine d_x [0, 1, 2, 3, 4] rfl rfl (x_ix tab_ok rfl rfl rfl rfl he50) ?_
                    refine d_a [0, 1, 2, 3, 4] tab_ok rfl ?_
                    obtain ⟨r51, hr51, hm⟩ := bind_inv hm
                    refine d_x [0, 1, 2, 3, 4] rfl rfl (rd_callRD rfl rfl rfl (locks_bound_c hr51)) ?_
                    obtain ⟨r52, hr52, hm⟩ := bind_inv hm
                    refine d_x [0, 1, 2, 3, 4] rfl rfl (rd_callRN rfl rfl (snaps_cons (.d _) (snaps_cons (.d _) snaps_nil)) (conflict_Agree_c hr52)) ?_
                    iterate 2 (refine d_a [0, 1, 2, 3, 4] tab_ok rfl ?_)
                    refine d_tail ?_ (by kernel_rfl)
                    refine tops_nil ?_
                    refine way_then ?_
                    exact ⟨_, [0, 1, 2, 3, 4], (Option.some.inj hm).symm, rfl, k0, rfl⟩
                · refine w_norm [3, 4, 5, 6, 15, 91, 92, 93, 113] rfl rfl ?_
                  refine twp_cond _ rfl (fun h53 => ?_) (fun h53 => ?_)
                  · replace hm := iteB_T h53 hm
                    refine twp_rseq ?_
                    refine s_a tab_ok rfl ?_
                    refine tops_nil ?_
                    refine w_norm [8] rfl rfl ?_
                    refine twp_ret ?_
                    refine way_blockRet ?_
                    refine way_thenRet ?_
                    obtain ⟨v54, hm, hz⟩ := inr_inv hm
                    rw [hz44 _ hz] at hm
                    refine way_thenRet ?_
                    refine way_blockRet ?_
                    obtain ⟨v55, hm, hz⟩ := inr_inv hm
                    rw [hz41 _ hz] at hm
                    refine way_thenRet ?_
                    obtain rfl := Option.some.inj hm
                    exact EndsS.one _ rfl (.d _) (.refl _)
                  · replace hm := iteB_F h53 hm
                    refine twp_skip ?_
                    refine way_block ?_
                    refine way_then ?_
                    refine w_norm [3, 4, 5, 6, 15, 91, 92, 93] rfl rfl ?_
                    refine twp_region ?_
                    obtain ⟨g56, hm⟩ := guard_inv hm
                    refine s_x rfl rfl (x_ar rfl rfl rfl rfl g56) ?_
                    refine s_a tab_ok rfl ?_
                    refine tops_nil ?_
                    refine way_then ?_
                    exact ⟨_, [0, 1, 2, 3], (Option.some.inj hm).symm, rfl, k0, rfl⟩
              · replace hm := ite_F h45 hm
                refine twp_exit ?_
                refine way_thenExit ?_
                obtain ⟨v57, hm, hz⟩ := inr_inv hm
                rw [hz44 _ hz] at hm
                refine way_thenExit ?_
                refine way_here ?_
                refine way_then ?_
                exact ⟨_, [0, 1, 2, 3], (Option.some.inj hm).symm, rfl, k0, rfl⟩
            · refine w_norm [4, 5, 6, 15] rfl rfl ?_
              refine w_joinS hm (fun _ => ([] : Fr)) (fun _ => ([] : List (Nat × Blk))) [] [] rfl (fun z58 hm hz58 => ?_) (fun j hm => ?_)
              · refine twp_rseq ?_
                refine s_a tab_ok rfl ?_
                refine s_x rfl rfl (x_len tab_ok rfl rfl rfl) ?_
                refine s_a tab_ok rfl ?_
                refine tops_nil ?_
                refine w_norm [4, 5, 6, 115, 116, 117] rfl rfl ?_
                refine twp_block ?_
                refine w_loop hm (fun x60 => ([(117, .d (.int .i64 x60))] : Fr)) (fun x60 => ([] : List (Nat × Blk))) [117] [4, 5, 6, 115, 116] [0, 1, 2, 3] rfl k0 rfl rfl rfl rfl rfl (fun x60 z61 hm hz61 => ?_)
                refine w_norm [4, 5, 6, 115, 116, 117] rfl rfl ?_
                refine twp_rseq ?_
                refine s_a tab_ok rfl ?_
                refine tops_nil ?_
                refine w_norm [4, 5, 6, 115, 116, 117, 118] rfl rfl ?_
                refine twp_seq ?_
                refine twp_cond _ rfl (fun h62 => ?_) (fun h62 => ?_)
                · replace hm := ite_T h62 hm
                  refine twp_skip ?_
                  refine way_then ?_
                  refine w_norm [4, 5, 6, 115, 116, 117] rfl rfl ?_
                  refine twp_seq ?_
                  refine twp_block ?_
                  refine twp_rseq ?_
                  obtain ⟨e63, he63, hm⟩ := get_inv hm
                  refine s_x rfl rfl (x_ix tab_ok rfl rfl rfl rfl he63) ?_
                  refine s_a tab_ok rfl ?_
                  refine s_al 4 rfl rfl zero54 rfl ?_
                  refine s_a tab_ok rfl ?_
                  refine tops_nil ?_
                  refine w_norm [4, 5, 6, 19, 115, 116, 117] rfl rfl ?_
                  refine twp_rseq ?_
                  iterate 3 (refine s_a tab_ok rfl ?_)
                  obtain ⟨r64, hr64, hm⟩ := bind_inv hm
                  refine s_x rfl rfl (rd_callRN rfl rfl (snaps_cons (.d _) (snaps_cons (.d _) snaps_nil)) (table_Index_c hr64)) ?_
                  refine s_a tab_ok rfl ?_
                  refine tops_nil ?_
                  refine w_norm [4, 5, 6, 19, 20, 115, 116, 117] rfl rfl ?_
                  refine w_joinM hm (fun x65 => ([(142, .d (.bool (x65)))] : Fr)) (fun x65 => ([] : List (Nat × Blk))) [142] [4, 5, 6, 115, 116, 117] rfl (fun z66 hm => ?_) (fun x65 hm => ?_)
                  · refine twp_draw follows  ?_
                    iterate 3 (refine d_a [0, 1, 2, 3, 4] tab_ok rfl ?_)
                    obtain ⟨e67, he67, hm⟩ := get_inv hm
                    refine d_x [0, 1, 2, 3, 4] rfl rfl (x_ix tab_ok rfl rfl rfl rfl he67) ?_
                    iterate 4 (refine d_a [0, 1, 2, 3, 4] tab_ok rfl ?_)
                    refine d_b [0, 1, 2, 3, 4] tab_ok rfl (fun q68 hq68 => ?_)
                    cases q68
                    · replace hm := iteN_F hq68 hm
                      iterate 9 (refine d_a [0, 1, 2, 3, 4] tab_ok rfl ?_)
                      refine d_tail ?_ (by kernel_rfl)
                      refine tops_nil ?_
                      refine way_then ?_
                      exact ⟨_, [0, 1, 2, 3, 4], (Option.some.inj hm).symm, rfl, k0, rfl⟩
                    · replace hm := iteN_T hq68 hm
                      iterate 5 (refine d_a [0, 1, 2, 3, 4] tab_ok rfl ?_)
                      obtain ⟨e69, he69, hm⟩ := get_inv hm
                      refine d_x [0, 1, 2, 3, 4] rfl rfl (x_ix tab_ok rfl rfl rfl rfl he69) ?_
                      refine d_a [0, 1, 2, 3, 4] tab_ok rfl ?_
                      obtain ⟨r70, hr70, hm⟩ := bind_inv hm
                      refine d_x [0, 1, 2, 3, 4] rfl rfl (rd_callRN rfl rfl (snaps_cons (.d _) (snaps_cons (.d _) snaps_nil)) (locks_restrictive_c hr70)) ?_
                      refine d_a [0, 1, 2, 3, 4] tab_ok rfl ?_
                      refine d_tail ?_ (by kernel_rfl)
                      refine tops_nil ?_
                      refine way_then ?_
                      exact ⟨_, [0, 1, 2, 3, 4], (Option.some.inj hm).symm, rfl, k0, rfl⟩
                  · refine w_norm [4, 5, 6, 115, 116, 117, 142] rfl rfl ?_
                    refine twp_cond _ rfl (fun h71 => ?_) (fun h71 => ?_)
                    · replace hm := iteB_T h71 hm
                      refine twp_rseq ?_
                      refine s_a tab_ok rfl ?_
                      refine tops_nil ?_
                      refine w_norm [8] rfl rfl ?_
                      refine twp_ret ?_
                      refine way_blockRet ?_
                      refine way_thenRet ?_
                      obtain ⟨v72, hm, hz⟩ := inr_inv hm
                      rw [hz61 _ hz] at hm
                      refine way_thenRet ?_
                      refine way_blockRet ?_
                      obtain ⟨v73, hm, hz⟩ := inr_inv hm
                      rw [hz58 _ hz] at hm
                      refine way_thenRet ?_
                      obtain rfl := Option.some.inj hm
                      exact EndsS.one _ rfl (.d _) (.refl _)
                    · replace hm := iteB_F h71 hm
                      refine twp_skip ?_
                      refine way_block ?_
                      refine way_then ?_
                      refine w_norm [4, 5, 6, 115, 116, 117] rfl rfl ?_
                      refine twp_region ?_
                      obtain ⟨g74, hm⟩ := guard_inv hm
                      refine s_x rfl rfl (x_ar rfl rfl rfl rfl g74) ?_
                      refine s_a tab_ok rfl ?_
                      refine tops_nil ?_
                      refine way_then ?_
                      exact ⟨_, [0, 1, 2, 3], (Option.some.inj hm).symm, rfl, k0, rfl⟩
                · replace hm := ite_F h62 hm
                  refine twp_exit ?_
                  refine way_thenExit ?_
                  obtain ⟨v75, hm, hz⟩ := inr_inv hm
                  rw [hz61 _ hz] at hm
                  refine way_thenExit ?_
                  refine way_here ?_
                  refine way_then ?_
                  exact ⟨_, [0, 1, 2, 3], (Option.some.inj hm).symm, rfl, k0, rfl⟩
              · refine w_norm [] rfl rfl ?_
                refine twp_rseq ?_
                refine s_a tab_ok rfl ?_
                refine tops_nil ?_
                refine w_norm [8] rfl rfl ?_
                refine twp_ret ?_
                obtain rfl := Option.some.inj hm
                exact EndsS.one _ rfl (.d _) (.refl _)

theorem law21_alive_c  {r : Bool} (hm : law21_alive  = some r) : RetN Try.prog 10 [] (.bool (r)) := by
  refine .unit (ret_bodyS callB10 Try.func10 rfl Try.ntmps10 rfl rfl (fun wX gX => ?_)) rfl
  unfold law21_alive at hm
  refine w_norm [] rfl rfl ?_
  refine twp_rseq ?_
  refine s_a tab_ok rfl ?_
  refine tops_nil ?_
  refine w_norm [] rfl rfl ?_
  refine twp_rseq ?_
  obtain ⟨r1, hr1, hm⟩ := bind_inv hm
  refine s_x rfl rfl (rd_callRD rfl rfl rfl (law21_Table_c hr1)) ?_
  refine s_al 0 rfl rfl zero25 rfl ?_
  refine s_wkb 0 [some 14, some 1, some 1, none, none] rfl rfl ?_
  refine s_a tab_ok rfl ?_
  refine tops_nil ?_
  refine w_norm [1] rfl rfl ?_
  refine twp_rseq ?_
  refine s_x rfl rfl (build_d rfl plc44 zero44 rfl rfl rfl rfl) ?_
  refine s_x rfl rfl (build_d rfl plc44 zero44 rfl rfl rfl rfl) ?_
  refine s_x rfl rfl (x_lit [.tmp 6, .tmp 7] tab_ok rfl rfl zero44 rfl rfl rfl rfl rfl) ?_
  refine s_x rfl rfl (x_lit [.const (Value.int IntKind.i64 1)] tab_ok rfl rfl zero3 rfl rfl rfl rfl rfl) ?_
  refine s_x rfl rfl (build_d rfl plc28 zero28 rfl rfl rfl rfl) ?_
  refine s_al 1 rfl rfl zero28 rfl ?_
  refine s_wkb 1 [some 3, some 1] rfl rfl ?_
  refine s_a tab_ok rfl ?_
  refine tops_nil ?_
  refine w_norm [1, 2] rfl rfl ?_
  refine twp_hole ?_
  refine twp_dseq follows  ?_
  obtain ⟨g2, hm⟩ := guard_inv hm
  refine d_x [] rfl rfl (x_make (f := D.bool) (x := false) tab_ok rfl rfl zero4 rfl rfl rfl rfl rfl g2 rfl) ?_
  obtain ⟨g3, hm⟩ := guard_inv hm
  refine d_x [] rfl rfl (x_make (f := D.bool) (x := false) tab_ok rfl rfl zero4 rfl rfl rfl rfl rfl g3 rfl) ?_
  refine d_x [] rfl rfl (build_d rfl plc39 zero39 rfl rfl rfl rfl) ?_
  refine d_wr [2] _ (.mptr 2 0 0 0) rfl (onE_A rfl) rfl (w_alloc rfl rfl zero39 rfl rfl) ?_
  refine d_tail ?_ (by kernel_rfl)
  refine s_a tab_ok rfl ?_
  refine s_wkb 2 [none, some 1, none, some 1, some 1, some 1, some 1] rfl rfl ?_
  refine tops_nil ?_
  refine w_norm [1, 2, 3] rfl rfl ?_
  refine twp_seq ?_
  refine w_joinM hm (fun x4 => ([(47, .d (.bool (x4)))] : Fr)) (fun x4 => ([] : List (Nat × Blk))) [47] [1, 2, 3] rfl (fun z5 hm => ?_) (fun x4 hm => ?_)
  · refine twp_region ?_
    iterate 2 (refine s_a tab_ok rfl ?_)
    obtain ⟨r6, hr6, hm⟩ := bind_inv hm
    refine s_x rfl rfl (rd_callRD rfl rfl rfl (locks_Path_c hr6)) ?_
    refine s_x rfl rfl (x_lit [.const (Value.int IntKind.i64 1), .const (Value.int IntKind.i64 2)] tab_ok rfl rfl zero3 rfl rfl rfl rfl rfl) ?_
    obtain ⟨r7, hr7, hm⟩ := bind_inv hm
    refine s_x rfl rfl (rd_callRN rfl rfl (snaps_cons (.d _) (snaps_cons (.d _) snaps_nil)) (law21_ints_c hr7)) ?_
    refine s_a tab_ok rfl ?_
    refine s_b tab_ok rfl (fun q8 hq8 => ?_)
    cases q8
    · replace hm := iteB_F hq8 hm
      iterate 2 (refine s_a tab_ok rfl ?_)
      obtain ⟨r9, hr9, hm⟩ := bind_inv hm
      refine s_x rfl rfl (rd_callRD rfl rfl rfl (locks_Over_c hr9)) ?_
      refine s_x rfl rfl (x_lit [.const (Value.int IntKind.i64 3)] tab_ok rfl rfl zero3 rfl rfl rfl rfl rfl) ?_
      obtain ⟨r10, hr10, hm⟩ := bind_inv hm
      refine s_x rfl rfl (rd_callRN rfl rfl (snaps_cons (.d _) (snaps_cons (.d _) snaps_nil)) (law21_ints_c hr10)) ?_
      iterate 2 (refine s_a tab_ok rfl ?_)
      refine s_b tab_ok rfl (fun q11 hq11 => ?_)
      cases q11
      · replace hm := iteB_F hq11 hm
        iterate 2 (refine s_a tab_ok rfl ?_)
        obtain ⟨r12, hr12, hm⟩ := bind_inv hm
        refine s_x rfl rfl (rd_callRD rfl rfl rfl (locks_Bound_c hr12)) ?_
        refine s_x rfl rfl (x_len tab_ok rfl rfl rfl) ?_
        iterate 2 (refine s_a tab_ok rfl ?_)
        refine s_b tab_ok rfl (fun q13 hq13 => ?_)
        cases q13
        · replace hm := iteN_F hq13 hm
          iterate 2 (refine s_a tab_ok rfl ?_)
          obtain ⟨r14, hr14, hm⟩ := bind_inv hm
          refine s_x rfl rfl (rd_callRD rfl rfl rfl (locks_Path_c hr14)) ?_
          refine s_x rfl rfl (x_len tab_ok rfl rfl rfl) ?_
          iterate 2 (refine s_a tab_ok rfl ?_)
          refine s_b tab_ok rfl (fun q15 hq15 => ?_)
          cases q15
          · replace hm := iteN_F hq15 hm
            iterate 2 (refine s_a tab_ok rfl ?_)
            obtain ⟨r16, hr16, hm⟩ := bind_inv hm
            refine s_x rfl rfl (rd_callRN rfl rfl (snaps_cons (.d _) (snaps_cons (.d _) snaps_nil)) (locks_Sound_c hr16)) ?_
            iterate 2 (refine s_a tab_ok rfl ?_)
            refine tops_nil ?_
            refine way_then ?_
            exact ⟨_, [0, 1, 2], (Option.some.inj hm).symm, rfl, k0, rfl⟩
          · replace hm := iteN_T hq15 hm
            iterate 5 (refine s_a tab_ok rfl ?_)
            refine tops_nil ?_
            refine way_then ?_
            exact ⟨_, [0, 1, 2], (Option.some.inj hm).symm, rfl, k0, rfl⟩
        · replace hm := iteN_T hq13 hm
          iterate 12 (refine s_a tab_ok rfl ?_)
          refine tops_nil ?_
          refine way_then ?_
          exact ⟨_, [0, 1, 2], (Option.some.inj hm).symm, rfl, k0, rfl⟩
      · replace hm := iteB_T hq11 hm
        iterate 19 (refine s_a tab_ok rfl ?_)
        refine tops_nil ?_
        refine way_then ?_
        exact ⟨_, [0, 1, 2], (Option.some.inj hm).symm, rfl, k0, rfl⟩
    · replace hm := iteB_T hq8 hm
      iterate 27 (refine s_a tab_ok rfl ?_)
      refine tops_nil ?_
      refine way_then ?_
      exact ⟨_, [0, 1, 2], (Option.some.inj hm).symm, rfl, k0, rfl⟩
  · refine w_norm [1, 2, 3, 47] rfl rfl ?_
    refine twp_cond _ rfl (fun h17 => ?_) (fun h17 => ?_)
    · replace hm := iteB_T h17 hm
      refine twp_rseq ?_
      refine s_a tab_ok rfl ?_
      refine tops_nil ?_
      refine w_norm [0] rfl rfl ?_
      refine twp_ret ?_
      refine way_thenRet ?_
      obtain rfl := Option.some.inj hm
      exact EndsS.one _ rfl (.d _) (.refl _)
    · replace hm := iteB_F h17 hm
      refine twp_skip ?_
      refine way_then ?_
      refine w_norm [1, 2, 3] rfl rfl ?_
      refine twp_rseq ?_
      refine s_x rfl rfl (build_d rfl plc44 zero44 rfl rfl rfl rfl) ?_
      refine s_x rfl rfl (build_d rfl plc44 zero44 rfl rfl rfl rfl) ?_
      refine s_x rfl rfl (x_lit [.tmp 48, .tmp 49] tab_ok rfl rfl zero44 rfl rfl rfl rfl rfl) ?_
      refine s_x rfl rfl (x_lit [.const (Value.int IntKind.i64 2)] tab_ok rfl rfl zero3 rfl rfl rfl rfl rfl) ?_
      refine s_x rfl rfl (build_d rfl plc28 zero28 rfl rfl rfl rfl) ?_
      refine s_al 3 rfl rfl zero28 rfl ?_
      refine s_wkb 3 [some 3, some 1] rfl rfl ?_
      refine s_a tab_ok rfl ?_
      refine tops_nil ?_
      refine w_norm [1, 2, 3, 4] rfl rfl ?_
      refine w_joinM hm (fun x18 => ([(0, .d (.bool (x18)))] : Fr)) (fun x18 => ([] : List (Nat × Blk))) [0] [] rfl (fun z19 hm => ?_) (fun x18 hm => ?_)
      · refine twp_region ?_
        iterate 3 (refine s_a tab_ok rfl ?_)
        obtain ⟨r20, hr20, hm⟩ := bind_inv hm
        refine s_x rfl rfl (rd_callRN rfl rfl (snaps_cons (.d _) (snaps_cons (.d _) (snaps_cons (.d _) (snaps_cons (.d _) snaps_nil)))) (locks_Free_c hr20)) ?_
        refine s_a tab_ok rfl ?_
        refine s_b tab_ok rfl (fun q21 hq21 => ?_)
        cases q21
        · replace hm := ite_F hq21 hm
          iterate 20 (refine s_a tab_ok rfl ?_)
          refine tops_nil ?_
          refine way_then ?_
          exact ⟨_, [0, 1, 2, 3], (Option.some.inj hm).symm, rfl, k0, rfl⟩
        · replace hm := ite_T hq21 hm
          iterate 3 (refine s_a tab_ok rfl ?_)
          obtain ⟨r22, hr22, hm⟩ := bind_inv hm
          refine s_x rfl rfl (rd_callRN rfl rfl (snaps_cons (.d _) (snaps_cons (.d _) (snaps_cons (.d _) (snaps_cons (.d _) snaps_nil)))) (locks_Free_c hr22)) ?_
          iterate 2 (refine s_a tab_ok rfl ?_)
          refine s_b tab_ok rfl (fun q23 hq23 => ?_)
          cases q23
          · replace hm := ite_F hq23 hm
            iterate 13 (refine s_a tab_ok rfl ?_)
            refine tops_nil ?_
            refine way_then ?_
            exact ⟨_, [0, 1, 2, 3], (Option.some.inj hm).symm, rfl, k0, rfl⟩
          · replace hm := ite_T hq23 hm
            iterate 2 (refine s_a tab_ok rfl ?_)
            obtain ⟨r24, hr24, hm⟩ := bind_inv hm
            refine s_x rfl rfl (rd_callRD rfl rfl rfl (locks_Path_c hr24)) ?_
            refine s_x rfl rfl (x_lit [.const (Value.int IntKind.i64 2)] tab_ok rfl rfl zero3 rfl rfl rfl rfl rfl) ?_
            obtain ⟨r25, hr25, hm⟩ := bind_inv hm
            refine s_x rfl rfl (rd_callRN rfl rfl (snaps_cons (.d _) (snaps_cons (.d _) snaps_nil)) (law21_ints_c hr25)) ?_
            refine s_a tab_ok rfl ?_
            refine s_b tab_ok rfl (fun q26 hq26 => ?_)
            cases q26
            · replace hm := iteB_F hq26 hm
              iterate 6 (refine s_a tab_ok rfl ?_)
              refine tops_nil ?_
              refine way_then ?_
              exact ⟨_, [0, 1, 2, 3], (Option.some.inj hm).symm, rfl, k0, rfl⟩
            · replace hm := iteB_T hq26 hm
              iterate 2 (refine s_a tab_ok rfl ?_)
              obtain ⟨r27, hr27, hm⟩ := bind_inv hm
              refine s_x rfl rfl (rd_callRN rfl rfl (snaps_cons (.d _) (snaps_cons (.d _) snaps_nil)) (locks_Sound_c hr27)) ?_
              iterate 3 (refine s_a tab_ok rfl ?_)
              refine tops_nil ?_
              refine way_then ?_
              exact ⟨_, [0, 1, 2, 3], (Option.some.inj hm).symm, rfl, k0, rfl⟩
      · refine w_norm [0] rfl rfl ?_
        refine twp_ret ?_
        obtain rfl := Option.some.inj hm
        exact EndsS.one _ rfl (.d _) (.refl _)

theorem ref16_sections_c {p0 : Table} {p1 : (List Int)} {r : Bool} (hm : ref16_sections p0 p1 = some r) : RetN Try.prog 80 [p0.enc, .sl 1 (p1.map (D.int .i64))] (.bool (r)) := by
  refine .unit (ret_bodyS callB80 Try.func80 rfl Try.ntmps80 rfl rfl (fun wX gX => ?_)) rfl
  unfold ref16_sections at hm
  refine w_norm [0, 1] rfl rfl ?_
  refine twp_rseq ?_
  refine s_bx 0 rfl rfl rfl ?_
  refine s_a tab_ok rfl ?_
  refine tops_nil ?_
  refine w_norm [1, 2] rfl rfl ?_
  refine w_joinS hm (fun _ => ([] : Fr)) (fun _ => ([] : List (Nat × Blk))) [] [] rfl (fun z1 hm hz1 => ?_) (fun j hm => ?_)
  · refine twp_rseq ?_
    refine s_a tab_ok rfl ?_
    refine s_x rfl rfl (x_len tab_ok rfl rfl rfl) ?_
    refine s_a tab_ok rfl ?_
    refine tops_nil ?_
    refine w_norm [1, 2, 8, 9, 10] rfl rfl ?_
    refine twp_block ?_
    refine w_loop hm (fun x3 => ([(10, .d (.int .i64 x3))] : Fr)) (fun x3 => ([] : List (Nat × Blk))) [10] [1, 2, 8, 9] [0] rfl k0 rfl rfl rfl rfl rfl (fun x3 z4 hm hz4 => ?_)
    refine w_norm [1, 2, 8, 9, 10] rfl rfl ?_
    refine twp_rseq ?_
    refine s_a tab_ok rfl ?_
    refine tops_nil ?_
    refine w_norm [1, 2, 8, 9, 10, 11] rfl rfl ?_
    refine twp_seq ?_
    refine twp_cond _ rfl (fun h5 => ?_) (fun h5 => ?_)
    · replace hm := ite_T h5 hm
      refine twp_skip ?_
      refine way_then ?_
      refine w_norm [1, 2, 8, 9, 10] rfl rfl ?_
      refine w_joinS hm (fun _ => ([] : Fr)) (fun _ => ([] : List (Nat × Blk))) [] [1, 2, 8, 9, 10] rfl (fun z6 hm hz6 => ?_) (fun j hm => ?_)
      · refine twp_block ?_
        refine twp_rseq ?_
        refine s_a tab_ok rfl ?_
        obtain ⟨e7, he7, hm⟩ := get_inv hm
        refine s_x rfl rfl (x_ix tab_ok rfl rfl rfl rfl he7) ?_
        iterate 3 (refine s_a tab_ok rfl ?_)
        refine tops_nil ?_
        refine w_norm [1, 2, 5, 6, 8, 9, 10] rfl rfl ?_
        refine twp_seq ?_
        refine w_cut [(22, .d (.bool (((decide (e7 < (0 : Int))) || (decide (p0.sections ≤ e7))))))] [22] [1, 2, 5, 6, 8, 9, 10] rfl ?_ ?_
        · refine twp_region ?_
          iterate 2 (refine s_a tab_ok rfl ?_)
          refine s_b tab_ok rfl (fun q8 hq8 => ?_)
          cases q8
          · iterate 5 (refine s_a tab_ok rfl ?_)
            refine tops_nil ?_
            refine way_then ?_
            exact ⟨[0], rfl, k0, st_eq (fr_cons (av_bool (by simp [hq8])) rfl) rfl⟩
          · iterate 5 (refine s_a tab_ok rfl ?_)
            refine tops_nil ?_
            refine way_then ?_
            exact ⟨[0], rfl, k0, st_eq (fr_cons (av_bool (by simp [hq8])) rfl) rfl⟩
        · refine w_norm [1, 2, 5, 6, 8, 9, 10, 22] rfl rfl ?_
          refine twp_cond _ rfl (fun h9 => ?_) (fun h9 => ?_)
          · replace hm := iteB_T h9 hm
            refine twp_rseq ?_
            refine s_a tab_ok rfl ?_
            refine tops_nil ?_
            refine w_norm [4] rfl rfl ?_
            refine twp_ret ?_
            refine way_thenRet ?_
            refine way_blockRet ?_
            obtain ⟨v10, hm, hz⟩ := inr_inv hm
            rw [hz6 _ hz] at hm
            refine way_thenRet ?_
            obtain ⟨v11, hm, hz⟩ := inr_inv hm
            rw [hz4 _ hz] at hm
            refine way_thenRet ?_
            refine way_blockRet ?_
            obtain ⟨v12, hm, hz⟩ := inr_inv hm
            rw [hz1 _ hz] at hm
            refine way_thenRet ?_
            obtain rfl := Option.some.inj hm
            exact EndsS.one _ rfl (.d _) (.refl _)
          · replace hm := iteB_F h9 hm
            refine twp_skip ?_
            refine way_then ?_
            refine w_norm [1, 2, 5, 6, 8, 9, 10] rfl rfl ?_
            refine twp_rseq ?_
            iterate 2 (refine s_a tab_ok rfl ?_)
            refine tops_nil ?_
            refine w_norm [1, 2, 6, 8, 9, 10, 23, 24] rfl rfl ?_
            refine twp_block ?_
            refine w_loop hm (fun x14 => ([(24, .d (.int .i64 x14))] : Fr)) (fun x14 => ([] : List (Nat × Blk))) [24] [1, 2, 6, 8, 9, 10, 23] [0] rfl k0 rfl rfl rfl rfl rfl (fun x14 z15 hm hz15 => ?_)
            refine w_norm [1, 2, 6, 8, 9, 10, 23, 24] rfl rfl ?_
            refine twp_rseq ?_
            refine s_a tab_ok rfl ?_
            refine tops_nil ?_
            refine w_norm [1, 2, 6, 8, 9, 10, 23, 24, 25] rfl rfl ?_
            refine twp_seq ?_
            refine twp_cond _ rfl (fun h16 => ?_) (fun h16 => ?_)
            · replace hm := ite_T h16 hm
              refine twp_skip ?_
              refine way_then ?_
              refine w_norm [1, 2, 6, 8, 9, 10, 23, 24] rfl rfl ?_
              refine twp_seq ?_
              refine twp_block ?_
              refine twp_rseq ?_
              iterate 2 (refine s_a tab_ok rfl ?_)
              refine tops_nil ?_
              refine w_norm [1, 2, 6, 7, 8, 9, 10, 23, 24] rfl rfl ?_
              refine twp_rseq ?_
              iterate 2 (refine s_a tab_ok rfl ?_)
              obtain ⟨e17, he17, hm⟩ := get_inv hm
              refine s_x rfl rfl (x_ix tab_ok rfl rfl rfl rfl he17) ?_
              iterate 3 (refine s_a tab_ok rfl ?_)
              refine tops_nil ?_
              refine w_norm [1, 2, 6, 8, 9, 10, 23, 24, 32] rfl rfl ?_
              refine twp_cond _ rfl (fun h18 => ?_) (fun h18 => ?_)
              · replace hm := ite_T h18 hm
                refine twp_rseq ?_
                refine s_a tab_ok rfl ?_
                refine tops_nil ?_
                refine w_norm [4] rfl rfl ?_
                refine twp_ret ?_
                refine way_blockRet ?_
                refine way_thenRet ?_
                obtain ⟨v19, hm, hz⟩ := inr_inv hm
                rw [hz15 _ hz] at hm
                refine way_thenRet ?_
                refine way_blockRet ?_
                refine way_blockRet ?_
                obtain ⟨v20, hm, hz⟩ := inr_inv hm
                rw [hz6 _ hz] at hm
                refine way_thenRet ?_
                obtain ⟨v21, hm, hz⟩ := inr_inv hm
                rw [hz4 _ hz] at hm
                refine way_thenRet ?_
                refine way_blockRet ?_
                obtain ⟨v22, hm, hz⟩ := inr_inv hm
                rw [hz1 _ hz] at hm
                refine way_thenRet ?_
                obtain rfl := Option.some.inj hm
                exact EndsS.one _ rfl (.d _) (.refl _)
              · replace hm := ite_F h18 hm
                refine twp_skip ?_
                refine way_block ?_
                refine way_then ?_
                refine w_norm [1, 2, 6, 8, 9, 10, 23, 24] rfl rfl ?_
                refine twp_region ?_
                obtain ⟨g23, hm⟩ := guard_inv hm
                refine s_x rfl rfl (x_ar rfl rfl rfl rfl g23) ?_
                refine s_a tab_ok rfl ?_
                refine tops_nil ?_
                refine way_then ?_
                exact ⟨_, [0], (Option.some.inj hm).symm, rfl, k0, rfl⟩
            · replace hm := ite_F h16 hm
              refine twp_exit ?_
              refine way_thenExit ?_
              obtain ⟨v24, hm, hz⟩ := inr_inv hm
              rw [hz15 _ hz] at hm
              refine way_thenExit ?_
              refine way_here ?_
              refine way_block ?_
              refine way_then ?_
              exact ⟨_, [0], (Option.some.inj hm).symm, rfl, k0, rfl⟩
      · refine w_norm [1, 2, 8, 9, 10] rfl rfl ?_
        refine twp_region ?_
        obtain ⟨g25, hm⟩ := guard_inv hm
        refine s_x rfl rfl (x_ar rfl rfl rfl rfl g25) ?_
        refine s_a tab_ok rfl ?_
        refine tops_nil ?_
        refine way_then ?_
        exact ⟨_, [0], (Option.some.inj hm).symm, rfl, k0, rfl⟩
    · replace hm := ite_F h5 hm
      refine twp_exit ?_
      refine way_thenExit ?_
      obtain ⟨v26, hm, hz⟩ := inr_inv hm
      rw [hz4 _ hz] at hm
      refine way_thenExit ?_
      refine way_here ?_
      refine way_then ?_
      exact ⟨_, [0], (Option.some.inj hm).symm, rfl, k0, rfl⟩
  · refine w_norm [] rfl rfl ?_
    refine twp_rseq ?_
    refine s_a tab_ok rfl ?_
    refine tops_nil ?_
    refine w_norm [4] rfl rfl ?_
    refine twp_ret ?_
    obtain rfl := Option.some.inj hm
    exact EndsS.one _ rfl (.d _) (.refl _)

end Go.Proofs.Ytckkkfgjgjoemaa
