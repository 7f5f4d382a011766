/- The functions return what their models yield. No condition. -/
import Derived.Test.YtckkkfgjgjoemaaGnU
import Derived.Test.YtckkkfgjgjoemaaGnM
import Derived.Test.YtckkkfgjgjoemaaGnW6
set_option maxHeartbeats 400000
set_option linter.unusedSimpArgs false
set_option linter.unusedVariables false
set_option maxRecDepth 20000
namespace Go.Proofs.Ytckkkfgjgjoemaa
open Go Go.TL

theorem ref21_meet_c {p0 : (List Int)} {p1 : (List Int)} {r : Bool} (hm : ref21_meet p0 p1 = some r) : RetN Try.prog 58 [.sl 1 (p0.map (D.int .i64)), .sl 1 (p1.map (D.int .i64))] (.bool (r)) := by
  refine .unit (ret_bodyS callB58 Try.func58 rfl Try.ntmps58 rfl rfl (fun wX gX => ?_)) rfl
  unfold ref21_meet at hm
  refine w_norm [0, 1] rfl rfl ?_
  refine twp_rseq ?_
  refine s_a tab_ok rfl ?_
  refine tops_nil ?_
  refine w_norm [0, 1] rfl rfl ?_
  refine w_joinS hm (fun _ => ([] : Fr)) (fun _ => ([] : List (Nat × Blk))) [] [] rfl (fun z1 hm hz1 => ?_) (fun j hm => ?_)
  · refine twp_rseq ?_
    refine s_a tab_ok rfl ?_
    refine tops_nil ?_
    refine w_norm [0, 1, 5] rfl rfl ?_
    refine twp_block ?_
    refine w_loop hm (fun i3 => ([(5, .d (.int .i64 i3))] : Fr)) (fun i3 => ([] : List (Nat × Blk))) [5] [0, 1] [] rfl k0 rfl rfl rfl rfl rfl (fun i3 z4 hm hz4 => ?_)
    refine w_norm [0, 1, 5] rfl rfl ?_
    refine twp_seq ?_
    refine twp_rseq ?_
    iterate 2 (refine s_a tab_ok rfl ?_)
    refine s_x rfl rfl (x_len tab_ok rfl rfl rfl) ?_
    refine s_a tab_ok rfl ?_
    refine tops_nil ?_
    refine w_norm [0, 1, 5, 9] rfl rfl ?_
    refine twp_cond _ rfl (fun h5 => ?_) (fun h5 => ?_)
    · replace hm := ite_T h5 hm
      refine twp_skip ?_
      refine way_then ?_
      refine w_norm [0, 1, 5] rfl rfl ?_
      refine twp_seq ?_
      refine twp_block ?_
      refine twp_rseq ?_
      iterate 3 (refine s_a tab_ok rfl ?_)
      obtain ⟨e6, he6, hm⟩ := get_inv hm
      refine s_x rfl rfl (x_ix tab_ok rfl rfl rfl rfl he6) ?_
      refine s_a tab_ok rfl ?_
      obtain ⟨r7, hr7, hm⟩ := bind_inv hm
      refine s_x rfl rfl (rd_callRN rfl rfl (snaps_cons (.d _) (snaps_cons (.d _) snaps_nil)) (ref02_Has_c hr7)) ?_
      refine tops_nil ?_
      refine w_norm [0, 1, 5, 17] rfl rfl ?_
      refine twp_cond _ rfl (fun h8 => ?_) (fun h8 => ?_)
      · replace hm := iteB_T h8 hm
        refine twp_rseq ?_
        refine s_a tab_ok rfl ?_
        refine tops_nil ?_
        refine w_norm [4] rfl rfl ?_
        refine twp_ret ?_
        refine way_blockRet ?_
        refine way_thenRet ?_
        obtain ⟨v9, hm, hz⟩ := inr_inv hm
        rw [hz4 _ hz] at hm
        refine way_thenRet ?_
        refine way_blockRet ?_
        obtain ⟨v10, hm, hz⟩ := inr_inv hm
        rw [hz1 _ hz] at hm
        refine way_thenRet ?_
        obtain rfl := Option.some.inj hm
        exact EndsS.one _ rfl (.d _) (.refl _)
      · replace hm := iteB_F h8 hm
        refine twp_skip ?_
        refine way_block ?_
        refine way_then ?_
        refine w_norm [0, 1, 5] rfl rfl ?_
        refine twp_region ?_
        refine s_a tab_ok rfl ?_
        obtain ⟨g11, hm⟩ := guard_inv hm
        refine s_x rfl rfl (x_ar rfl rfl rfl rfl g11) ?_
        refine s_a tab_ok rfl ?_
        refine tops_nil ?_
        refine way_then ?_
        exact ⟨_, [], (Option.some.inj hm).symm, rfl, k0, rfl⟩
    · replace hm := ite_F h5 hm
      refine twp_exit ?_
      refine way_thenExit ?_
      obtain ⟨v12, hm, hz⟩ := inr_inv hm
      rw [hz4 _ hz] at hm
      refine way_thenExit ?_
      refine way_here ?_
      refine way_then ?_
      exact ⟨_, [], (Option.some.inj hm).symm, rfl, k0, rfl⟩
  · refine w_norm [] rfl rfl ?_
    refine twp_rseq ?_
    refine s_a tab_ok rfl ?_
    refine tops_nil ?_
    refine w_norm [4] rfl rfl ?_
    refine twp_ret ?_
    obtain rfl := Option.some.inj hm
    exact EndsS.one _ rfl (.d _) (.refl _)

theorem ref21_follows_c {p0 : Table} {p1 : Int} {p2 : Int} {r : Bool} (hm : ref21_follows p0 p1 p2 = some r) : RetN Try.prog 59 [p0.enc, .int .i64 p1, .int .i64 p2] (.bool (r)) := by
  refine .unit (ret_bodyS callB59 Try.func59 rfl Try.ntmps59 rfl rfl (fun wX gX => ?_)) rfl
  unfold ref21_follows at hm
  refine w_norm [0, 1, 2] rfl rfl ?_
  refine twp_rseq ?_
  refine s_bx 0 rfl rfl rfl ?_
  refine s_a tab_ok rfl ?_
  refine tops_nil ?_
  refine w_norm [1, 2, 3] rfl rfl ?_
  refine w_joinM hm (fun x1 => ([(6, .d (.bool (x1)))] : Fr)) (fun x1 => ([] : List (Nat × Blk))) [6] [] rfl (fun z2 hm => ?_) (fun x1 hm => ?_)
  · refine twp_draw follows  ?_
    iterate 3 (refine d_a [0] tab_ok rfl ?_)
    obtain ⟨e3, he3, hm⟩ := get_inv hm
    refine d_x [0] rfl rfl (x_ix tab_ok rfl rfl rfl rfl he3) ?_
    iterate 3 (refine d_a [0] tab_ok rfl ?_)
    refine d_b [0] tab_ok rfl (fun q4 hq4 => ?_)
    cases q4
    · replace hm := ite_F hq4 hm
      iterate 14 (refine d_a [0] tab_ok rfl ?_)
      refine d_tail ?_ (by kernel_rfl)
      refine s_a tab_ok rfl ?_
      refine tops_nil ?_
      refine way_then ?_
      exact ⟨_, [0], (Option.some.inj hm).symm, rfl, k0, rfl⟩
    · replace hm := ite_T hq4 hm
      iterate 3 (refine d_a [0] tab_ok rfl ?_)
      obtain ⟨e5, he5, hm⟩ := get_inv hm
      refine d_x [0] rfl rfl (x_ix tab_ok rfl rfl rfl rfl he5) ?_
      iterate 5 (refine d_a [0] tab_ok rfl ?_)
      obtain ⟨e6, he6, hm⟩ := get_inv hm
      refine d_x [0] rfl rfl (x_ix tab_ok rfl rfl rfl rfl he6) ?_
      iterate 4 (refine d_a [0] tab_ok rfl ?_)
      refine d_tail ?_ (by kernel_rfl)
      refine s_a tab_ok rfl ?_
      refine tops_nil ?_
      refine way_then ?_
      exact ⟨_, [0], (Option.some.inj hm).symm, rfl, k0, rfl⟩
  · refine w_norm [6] rfl rfl ?_
    refine twp_ret ?_
    obtain rfl := Option.some.inj hm
    exact EndsS.one _ rfl (.d _) (.refl _)

theorem ref21_apart_c {p0 : Table} {p1 : Inter} {p2 : Int} {p3 : Int} {r : Bool} (hm : ref21_apart p0 p1 p2 p3 = some r) : RetN Try.prog 38 [p0.enc, p1.enc, .int .i64 p2, .int .i64 p3] (.bool (r)) := by
  refine .unit (ret_bodyS callB38 Try.func38 rfl Try.ntmps38 rfl rfl (fun wX gX => ?_)) rfl
  unfold ref21_apart at hm
  refine w_norm [0, 1, 2, 3] rfl rfl ?_
  refine twp_rseq ?_
  refine s_bx 0 rfl rfl rfl ?_
  refine s_bx 1 rfl rfl rfl ?_
  refine s_a tab_ok rfl ?_
  refine tops_nil ?_
  refine w_norm [2, 3, 4, 5] rfl rfl ?_
  refine twp_seq ?_
  refine w_joinM hm (fun x1 => ([(35, .d (.bool (x1)))] : Fr)) (fun x1 => ([] : List (Nat × Blk))) [35] [2, 3, 4, 5] rfl (fun z2 hm => ?_) (fun x1 hm => ?_)
  · refine twp_draw follows  ?_
    iterate 3 (refine d_a [0, 1] tab_ok rfl ?_)
    obtain ⟨r3, hr3, hm⟩ := bind_inv hm
    refine d_x [0, 1] rfl rfl (rd_callRD rfl rfl rfl (ref21_path_c hr3)) ?_
    iterate 3 (refine d_a [0, 1] tab_ok rfl ?_)
    obtain ⟨r4, hr4, hm⟩ := bind_inv hm
    refine d_x [0, 1] rfl rfl (rd_callRD rfl rfl rfl (ref21_path_c hr4)) ?_
    obtain ⟨r5, hr5, hm⟩ := bind_inv hm
    refine d_x [0, 1] rfl rfl (rd_callRN rfl rfl (snaps_cons (.d _) (snaps_cons (.d _) snaps_nil)) (ref21_meet_c hr5)) ?_
    refine d_b [0, 1] tab_ok rfl (fun q6 hq6 => ?_)
    cases q6
    · replace hm := iteB_F hq6 hm
      iterate 3 (refine d_a [0, 1] tab_ok rfl ?_)
      obtain ⟨r7, hr7, hm⟩ := bind_inv hm
      refine d_x [0, 1] rfl rfl (rd_callRD rfl rfl rfl (ref21_over_c hr7)) ?_
      iterate 3 (refine d_a [0, 1] tab_ok rfl ?_)
      obtain ⟨r8, hr8, hm⟩ := bind_inv hm
      refine d_x [0, 1] rfl rfl (rd_callRD rfl rfl rfl (ref21_path_c hr8)) ?_
      obtain ⟨r9, hr9, hm⟩ := bind_inv hm
      refine d_x [0, 1] rfl rfl (rd_callRN rfl rfl (snaps_cons (.d _) (snaps_cons (.d _) snaps_nil)) (ref21_meet_c hr9)) ?_
      refine d_b [0, 1] tab_ok rfl (fun q10 hq10 => ?_)
      cases q10
      · replace hm := iteB_F hq10 hm
        iterate 7 (refine d_a [0, 1] tab_ok rfl ?_)
        refine d_tail ?_ (by kernel_rfl)
        refine tops_nil ?_
        refine way_then ?_
        exact ⟨_, [0, 1], (Option.some.inj hm).symm, rfl, k0, rfl⟩
      · replace hm := iteB_T hq10 hm
        iterate 3 (refine d_a [0, 1] tab_ok rfl ?_)
        obtain ⟨r11, hr11, hm⟩ := bind_inv hm
        refine d_x [0, 1] rfl rfl (rd_callRN rfl rfl (snaps_cons (.d _) (snaps_cons (.d _) (snaps_cons (.d _) snaps_nil))) (ref21_follows_c hr11)) ?_
        iterate 3 (refine d_a [0, 1] tab_ok rfl ?_)
        refine d_tail ?_ (by kernel_rfl)
        refine tops_nil ?_
        refine way_then ?_
        exact ⟨_, [0, 1], (Option.some.inj hm).symm, rfl, k0, rfl⟩
    · replace hm := iteB_T hq6 hm
      iterate 17 (refine d_a [0, 1] tab_ok rfl ?_)
      refine d_tail ?_ (by kernel_rfl)
      refine tops_nil ?_
      refine way_then ?_
      exact ⟨_, [0, 1], (Option.some.inj hm).symm, rfl, k0, rfl⟩
  · refine w_norm [2, 3, 4, 5, 35] rfl rfl ?_
    refine twp_cond _ rfl (fun h12 => ?_) (fun h12 => ?_)
    · replace hm := iteB_T h12 hm
      refine twp_rseq ?_
      refine s_a tab_ok rfl ?_
      refine tops_nil ?_
      refine w_norm [8] rfl rfl ?_
      refine twp_ret ?_
      refine way_thenRet ?_
      obtain rfl := Option.some.inj hm
      exact EndsS.one _ rfl (.d _) (.refl _)
    · replace hm := iteB_F h12 hm
      refine twp_skip ?_
      refine way_then ?_
      refine w_norm [2, 3, 4, 5] rfl rfl ?_
      refine w_joinM hm (fun x13 => ([(8, .d (.bool (x13)))] : Fr)) (fun x13 => ([] : List (Nat × Blk))) [8] [] rfl (fun z14 hm => ?_) (fun x13 hm => ?_)
      · refine twp_draw follows  ?_
        iterate 3 (refine d_a [0, 1] tab_ok rfl ?_)
        obtain ⟨r15, hr15, hm⟩ := bind_inv hm
        refine d_x [0, 1] rfl rfl (rd_callRD rfl rfl rfl (ref21_over_c hr15)) ?_
        iterate 3 (refine d_a [0, 1] tab_ok rfl ?_)
        obtain ⟨r16, hr16, hm⟩ := bind_inv hm
        refine d_x [0, 1] rfl rfl (rd_callRD rfl rfl rfl (ref21_over_c hr16)) ?_
        obtain ⟨r17, hr17, hm⟩ := bind_inv hm
        refine d_x [0, 1] rfl rfl (rd_callRN rfl rfl (snaps_cons (.d _) (snaps_cons (.d _) snaps_nil)) (ref21_meet_c hr17)) ?_
        refine d_a [0, 1] tab_ok rfl ?_
        refine d_b [0, 1] tab_ok rfl (fun q18 hq18 => ?_)
        cases q18
        · replace hm := iteB_F hq18 hm
          iterate 3 (refine d_a [0, 1] tab_ok rfl ?_)
          obtain ⟨r19, hr19, hm⟩ := bind_inv hm
          refine d_x [0, 1] rfl rfl (rd_callRN rfl rfl (snaps_cons (.d _) (snaps_cons (.d _) (snaps_cons (.d _) snaps_nil))) (ref21_follows_c hr19)) ?_
          refine d_a [0, 1] tab_ok rfl ?_
          refine d_b [0, 1] tab_ok rfl (fun q20 hq20 => ?_)
          cases q20
          · replace hm := iteB_F hq20 hm
            iterate 3 (refine d_a [0, 1] tab_ok rfl ?_)
            obtain ⟨r21, hr21, hm⟩ := bind_inv hm
            refine d_x [0, 1] rfl rfl (rd_callRN rfl rfl (snaps_cons (.d _) (snaps_cons (.d _) (snaps_cons (.d _) snaps_nil))) (ref21_follows_c hr21)) ?_
            refine d_a [0, 1] tab_ok rfl ?_
            refine d_tail ?_ (by kernel_rfl)
            refine s_a tab_ok rfl ?_
            refine tops_nil ?_
            refine way_then ?_
            exact ⟨_, [0, 1], (Option.some.inj hm).symm, rfl, k0, rfl⟩
          · replace hm := iteB_T hq20 hm
            iterate 5 (refine d_a [0, 1] tab_ok rfl ?_)
            refine d_tail ?_ (by kernel_rfl)
            refine s_a tab_ok rfl ?_
            refine tops_nil ?_
            refine way_then ?_
            exact ⟨_, [0, 1], (Option.some.inj hm).symm, rfl, k0, rfl⟩
        · replace hm := iteB_T hq18 hm
          iterate 11 (refine d_a [0, 1] tab_ok rfl ?_)
          refine d_tail ?_ (by kernel_rfl)
          refine s_a tab_ok rfl ?_
          refine tops_nil ?_
          refine way_then ?_
          exact ⟨_, [0, 1], (Option.some.inj hm).symm, rfl, k0, rfl⟩
      · refine w_norm [8] rfl rfl ?_
        refine twp_ret ?_
        obtain rfl := Option.some.inj hm
        exact EndsS.one _ rfl (.d _) (.refl _)

theorem ref21_Sound_c {p0 : Table} {p1 : Inter} {r : Bool} (hm : ref21_Sound p0 p1 = some r) : RetN Try.prog 20 [p0.enc, p1.enc] (.bool (r)) := by
  refine .unit (ret_bodyS callB20 Try.func20 rfl Try.ntmps20 rfl rfl (fun wX gX => ?_)) rfl
  unfold ref21_Sound at hm
  refine w_norm [0, 1] rfl rfl ?_
  refine twp_rseq ?_
  refine s_bx 0 rfl rfl rfl ?_
  refine s_bx 1 rfl rfl rfl ?_
  refine s_a tab_ok rfl ?_
  refine tops_nil ?_
  refine w_norm [2, 3] rfl rfl ?_
  refine twp_seq ?_
  refine twp_rseq ?_
  iterate 2 (refine s_a tab_ok rfl ?_)
  obtain ⟨r1, hr1, hm⟩ := bind_inv hm
  refine s_x rfl rfl (rd_callRN rfl rfl (snaps_cons (.d _) (snaps_cons (.d _) snaps_nil)) (ref21_Fits_c hr1)) ?_
  refine s_a tab_ok rfl ?_
  refine tops_nil ?_
  refine w_norm [2, 3, 12] rfl rfl ?_
  refine twp_cond _ rfl (fun h2 => ?_) (fun h2 => ?_)
  · replace hm := iteB_T h2 hm
    refine twp_rseq ?_
    refine s_a tab_ok rfl ?_
    refine tops_nil ?_
    refine w_norm [4] rfl rfl ?_
    refine twp_ret ?_
    refine way_thenRet ?_
    obtain rfl := Option.some.inj hm
    exact EndsS.one _ rfl (.d _) (.refl _)
  · replace hm := iteB_F h2 hm
    refine twp_skip ?_
    refine way_then ?_
    refine w_norm [2, 3] rfl rfl ?_
    refine w_joinS hm (fun _ => ([] : Fr)) (fun _ => ([] : List (Nat × Blk))) [] [] rfl (fun z3 hm hz3 => ?_) (fun j hm => ?_)
    · refine twp_rseq ?_
      refine s_a tab_ok rfl ?_
      refine tops_nil ?_
      refine w_norm [2, 3, 5] rfl rfl ?_
      refine twp_block ?_
      refine w_loop hm (fun x5 => ([(5, .d (.int .i64 x5))] : Fr)) (fun x5 => ([] : List (Nat × Blk))) [5] [2, 3] [0, 1] rfl k0 rfl rfl rfl rfl rfl (fun x5 z6 hm hz6 => ?_)
      refine w_norm [2, 3, 5] rfl rfl ?_
      refine twp_seq ?_
      refine twp_rseq ?_
      iterate 3 (refine s_a tab_ok rfl ?_)
      refine s_x rfl rfl (x_len tab_ok rfl rfl rfl) ?_
      refine s_a tab_ok rfl ?_
      refine tops_nil ?_
      refine w_norm [2, 3, 5, 17] rfl rfl ?_
      refine twp_cond _ rfl (fun h7 => ?_) (fun h7 => ?_)
      · replace hm := ite_T h7 hm
        refine twp_skip ?_
        refine way_then ?_
        refine w_norm [2, 3, 5] rfl rfl ?_
        refine w_joinS hm (fun _ => ([] : Fr)) (fun _ => ([] : List (Nat × Blk))) [] [2, 3, 5] rfl (fun z8 hm hz8 => ?_) (fun j hm => ?_)
        · refine twp_block ?_
          refine twp_rseq ?_
          iterate 3 (refine s_a tab_ok rfl ?_)
          obtain ⟨r9, hr9, hm⟩ := bind_inv hm
          refine s_x rfl rfl (rd_callRD rfl rfl rfl (ref21_bound_c hr9)) ?_
          refine s_a tab_ok rfl ?_
          refine tops_nil ?_
          refine w_norm [2, 3, 5, 6] rfl rfl ?_
          refine w_joinS hm (fun _ => ([] : Fr)) (fun _ => ([] : List (Nat × Blk))) [] [2, 3, 5] rfl (fun z10 hm hz10 => ?_) (fun j hm => ?_)
          · refine twp_rseq ?_
            refine s_a tab_ok rfl ?_
            refine tops_nil ?_
            refine w_norm [2, 3, 5, 6, 7] rfl rfl ?_
            refine twp_block ?_
            refine w_loop hm (fun x12 => ([(7, .d (.int .i64 x12))] : Fr)) (fun x12 => ([] : List (Nat × Blk))) [7] [2, 3, 5, 6] [0, 1] rfl k0 rfl rfl rfl rfl rfl (fun x12 z13 hm hz13 => ?_)
            refine w_norm [2, 3, 5, 6, 7] rfl rfl ?_
            refine twp_seq ?_
            refine twp_rseq ?_
            iterate 2 (refine s_a tab_ok rfl ?_)
            refine s_x rfl rfl (x_len tab_ok rfl rfl rfl) ?_
            refine s_a tab_ok rfl ?_
            refine tops_nil ?_
            refine w_norm [2, 3, 5, 6, 7, 27] rfl rfl ?_
            refine twp_cond _ rfl (fun h14 => ?_) (fun h14 => ?_)
            · replace hm := ite_T h14 hm
              refine twp_skip ?_
              refine way_then ?_
              refine w_norm [2, 3, 5, 6, 7] rfl rfl ?_
              refine twp_seq ?_
              refine twp_block ?_
              refine twp_dseq follows  ?_
              iterate 5 (refine d_a [0, 1] tab_ok rfl ?_)
              obtain ⟨e15, he15, hm⟩ := get_inv hm
              refine d_x [0, 1] rfl rfl (x_ix tab_ok rfl rfl rfl rfl he15) ?_
              iterate 2 (refine d_a [0, 1] tab_ok rfl ?_)
              obtain ⟨r16, hr16, hm⟩ := bind_inv hm
              refine d_x [0, 1] rfl rfl (rd_callRN rfl rfl (snaps_cons (.d _) (snaps_cons (.d _) snaps_nil)) (ref16_Index_c hr16)) ?_
              obtain ⟨e17, he17, hm⟩ := get_inv hm
              refine d_x [0, 1] rfl rfl (x_ix tab_ok rfl rfl rfl rfl he17) ?_
              iterate 3 (refine d_a [0, 1] tab_ok rfl ?_)
              obtain ⟨e18, he18, hm⟩ := get_inv hm
              refine d_x [0, 1] rfl rfl (x_ix tab_ok rfl rfl rfl rfl he18) ?_
              iterate 3 (refine d_a [0, 1] tab_ok rfl ?_)
              refine d_tail ?_ (by kernel_rfl)
              refine tops_nil ?_
              refine w_norm [2, 3, 5, 6, 7, 46] rfl rfl ?_
              refine twp_cond _ rfl (fun h19 => ?_) (fun h19 => ?_)
              · replace hm := iteN_T h19 hm
                refine twp_rseq ?_
                refine s_a tab_ok rfl ?_
                refine tops_nil ?_
                refine w_norm [4] rfl rfl ?_
                refine twp_ret ?_
                refine way_blockRet ?_
                refine way_thenRet ?_
                obtain ⟨v20, hm, hz⟩ := inr_inv hm
                rw [hz13 _ hz] at hm
                refine way_thenRet ?_
                refine way_blockRet ?_
                obtain ⟨v21, hm, hz⟩ := inr_inv hm
                rw [hz10 _ hz] at hm
                refine way_thenRet ?_
                refine way_blockRet ?_
                obtain ⟨v22, hm, hz⟩ := inr_inv hm
                rw [hz8 _ hz] at hm
                refine way_thenRet ?_
                obtain ⟨v23, hm, hz⟩ := inr_inv hm
                rw [hz6 _ hz] at hm
                refine way_thenRet ?_
                refine way_blockRet ?_
                obtain ⟨v24, hm, hz⟩ := inr_inv hm
                rw [hz3 _ hz] at hm
                refine way_thenRet ?_
                obtain rfl := Option.some.inj hm
                exact EndsS.one _ rfl (.d _) (.refl _)
              · replace hm := iteN_F h19 hm
                refine twp_skip ?_
                refine way_block ?_
                refine way_then ?_
                refine w_norm [2, 3, 5, 6, 7] rfl rfl ?_
                refine twp_region ?_
                refine s_a tab_ok rfl ?_
                obtain ⟨g25, hm⟩ := guard_inv hm
                refine s_x rfl rfl (x_ar rfl rfl rfl rfl g25) ?_
                refine s_a tab_ok rfl ?_
                refine tops_nil ?_
                refine way_then ?_
                exact ⟨_, [0, 1], (Option.some.inj hm).symm, rfl, k0, rfl⟩
            · replace hm := ite_F h14 hm
              refine twp_exit ?_
              refine way_thenExit ?_
              obtain ⟨v26, hm, hz⟩ := inr_inv hm
              rw [hz13 _ hz] at hm
              refine way_thenExit ?_
              refine way_here ?_
              refine way_then ?_
              exact ⟨_, [0, 1], (Option.some.inj hm).symm, rfl, k0, rfl⟩
          · refine w_norm [2, 3, 5] rfl rfl ?_
            refine twp_rseq ?_
            refine s_a tab_ok rfl ?_
            refine tops_nil ?_
            refine w_norm [2, 3, 5, 8] rfl rfl ?_
            refine twp_block ?_
            refine w_loop hm (fun x28 => ([(8, .d (.int .i64 x28))] : Fr)) (fun x28 => ([] : List (Nat × Blk))) [8] [2, 3, 5] [0, 1] rfl k0 rfl rfl rfl rfl rfl (fun x28 z29 hm hz29 => ?_)
            refine w_norm [2, 3, 5, 8] rfl rfl ?_
            refine twp_seq ?_
            refine twp_rseq ?_
            iterate 3 (refine s_a tab_ok rfl ?_)
            refine s_x rfl rfl (x_len tab_ok rfl rfl rfl) ?_
            refine s_a tab_ok rfl ?_
            refine tops_nil ?_
            refine w_norm [2, 3, 5, 8, 51] rfl rfl ?_
            refine twp_cond _ rfl (fun h30 => ?_) (fun h30 => ?_)
            · replace hm := ite_T h30 hm
              refine twp_skip ?_
              refine way_then ?_
              refine w_norm [2, 3, 5, 8] rfl rfl ?_
              refine twp_seq ?_
              refine twp_block ?_
              refine w_joinM hm (fun x31 => ([(64, .d (.bool (x31)))] : Fr)) (fun x31 => ([] : List (Nat × Blk))) [64] [2, 3, 5, 8] rfl (fun z32 hm => ?_) (fun x31 hm => ?_)
              · refine twp_region ?_
                iterate 3 (refine s_a tab_ok rfl ?_)
                refine s_b tab_ok rfl (fun q33 hq33 => ?_)
                cases q33
                · replace hm := iteN_F hq33 hm
                  iterate 7 (refine s_a tab_ok rfl ?_)
                  refine tops_nil ?_
                  refine way_then ?_
                  exact ⟨_, [0, 1], (Option.some.inj hm).symm, rfl, k0, rfl⟩
                · replace hm := iteN_T hq33 hm
                  iterate 4 (refine s_a tab_ok rfl ?_)
                  obtain ⟨r34, hr34, hm⟩ := bind_inv hm
                  refine s_x rfl rfl (rd_callRN rfl rfl (snaps_cons (.d _) (snaps_cons (.d _) (snaps_cons (.d _) (snaps_cons (.d _) snaps_nil)))) (ref21_apart_c hr34)) ?_
                  iterate 2 (refine s_a tab_ok rfl ?_)
                  refine tops_nil ?_
                  refine way_then ?_
                  exact ⟨_, [0, 1], (Option.some.inj hm).symm, rfl, k0, rfl⟩
              · refine w_norm [2, 3, 5, 8, 64] rfl rfl ?_
                refine twp_cond _ rfl (fun h35 => ?_) (fun h35 => ?_)
                · replace hm := iteB_T h35 hm
                  refine twp_rseq ?_
                  refine s_a tab_ok rfl ?_
                  refine tops_nil ?_
                  refine w_norm [4] rfl rfl ?_
                  refine twp_ret ?_
                  refine way_blockRet ?_
                  refine way_thenRet ?_
                  obtain ⟨v36, hm, hz⟩ := inr_inv hm
                  rw [hz29 _ hz] at hm
                  refine way_thenRet ?_
                  refine way_blockRet ?_
                  refine way_blockRet ?_
                  obtain ⟨v37, hm, hz⟩ := inr_inv hm
                  rw [hz8 _ hz] at hm
                  refine way_thenRet ?_
                  obtain ⟨v38, hm, hz⟩ := inr_inv hm
                  rw [hz6 _ hz] at hm
                  refine way_thenRet ?_
                  refine way_blockRet ?_
                  obtain ⟨v39, hm, hz⟩ := inr_inv hm
                  rw [hz3 _ hz] at hm
                  refine way_thenRet ?_
                  obtain rfl := Option.some.inj hm
                  exact EndsS.one _ rfl (.d _) (.refl _)
                · replace hm := iteB_F h35 hm
                  refine twp_skip ?_
                  refine way_block ?_
                  refine way_then ?_
                  refine w_norm [2, 3, 5, 8] rfl rfl ?_
                  refine twp_region ?_
                  refine s_a tab_ok rfl ?_
                  obtain ⟨g40, hm⟩ := guard_inv hm
                  refine s_x rfl rfl (x_ar rfl rfl rfl rfl g40) ?_
                  refine s_a tab_ok rfl ?_
                  refine tops_nil ?_
                  refine way_then ?_
                  exact ⟨_, [0, 1], (Option.some.inj hm).symm, rfl, k0, rfl⟩
            · replace hm := ite_F h30 hm
              refine twp_exit ?_
              refine way_thenExit ?_
              obtain ⟨v41, hm, hz⟩ := inr_inv hm
              rw [hz29 _ hz] at hm
              refine way_thenExit ?_
              refine way_here ?_
              refine way_block ?_
              refine way_then ?_
              exact ⟨_, [0, 1], (Option.some.inj hm).symm, rfl, k0, rfl⟩
        · refine w_norm [2, 3, 5] rfl rfl ?_
          refine twp_region ?_
          refine s_a tab_ok rfl ?_
          obtain ⟨g42, hm⟩ := guard_inv hm
          refine s_x rfl rfl (x_ar rfl rfl rfl rfl g42) ?_
          refine s_a tab_ok rfl ?_
          refine tops_nil ?_
          refine way_then ?_
          exact ⟨_, [0, 1], (Option.some.inj hm).symm, rfl, k0, rfl⟩
      · replace hm := ite_F h7 hm
        refine twp_exit ?_
        refine way_thenExit ?_
        obtain ⟨v43, hm, hz⟩ := inr_inv hm
        rw [hz6 _ hz] at hm
        refine way_thenExit ?_
        refine way_here ?_
        refine way_then ?_
        exact ⟨_, [0, 1], (Option.some.inj hm).symm, rfl, k0, rfl⟩
    · refine w_norm [] rfl rfl ?_
      refine twp_rseq ?_
      refine s_a tab_ok rfl ?_
      refine tops_nil ?_
      refine w_norm [4] rfl rfl ?_
      refine twp_ret ?_
      obtain rfl := Option.some.inj hm
      exact EndsS.one _ rfl (.d _) (.refl _)

theorem law21_LocksSound_w {p0 : Table} {p1 : Inter} {r : Bool} (hm : law21_LocksSound p0 p1 = some r) : Ret Try.prog 4 [] (fun _ => false) ([p0.enc, p1.enc].map .d) (.d (.bool (r))) [] := by
  refine ret_bodyS callB4 Try.func4 rfl Try.ntmps4 rfl rfl (fun wX gX => ?_)
  unfold law21_LocksSound at hm
  refine w_norm [0, 1] rfl rfl ?_
  refine twp_rseq ?_
  refine s_bx 0 rfl rfl rfl ?_
  refine s_bx 1 rfl rfl rfl ?_
  refine s_a tab_ok rfl ?_
  refine tops_nil ?_
  refine w_norm [2, 3] rfl rfl ?_
  refine w_joinM hm (fun x1 => ([(4, .d (.bool (x1)))] : Fr)) (fun x1 => ([] : List (Nat × Blk))) [4] [] rfl (fun z2 hm => ?_) (fun x1 hm => ?_)
  · refine twp_draw follows  ?_
    iterate 2 (refine d_a [0, 1] tab_ok rfl ?_)
    obtain ⟨r3, hr3, hm⟩ := bind_inv hm
    refine d_x [0, 1] rfl rfl (rd_callRN rfl rfl (snaps_cons (.d _) (snaps_cons (.d _) snaps_nil)) (law21_Small_c hr3)) ?_
    refine d_a [0, 1] tab_ok rfl ?_
    refine d_b [0, 1] tab_ok rfl (fun q4 hq4 => ?_)
    cases q4
    · replace hm := iteB_F hq4 hm
      iterate 2 (refine d_a [0, 1] tab_ok rfl ?_)
      obtain ⟨r5, hr5, hm⟩ := bind_inv hm
      refine d_x [0, 1] rfl rfl (rd_callRN rfl rfl (snaps_cons (.d _) (snaps_cons (.d _) snaps_nil)) (locks_Sound_c hr5)) ?_
      iterate 2 (refine d_a [0, 1] tab_ok rfl ?_)
      obtain ⟨r6, hr6, hm⟩ := bind_inv hm
      refine d_x [0, 1] rfl rfl (rd_callRN rfl rfl (snaps_cons (.d _) (snaps_cons (.d _) snaps_nil)) (ref21_Sound_c hr6)) ?_
      refine d_a [0, 1] tab_ok rfl ?_
      refine d_b [0, 1] tab_ok rfl (fun q7 hq7 => ?_)
      cases q7
      · replace hm := iteB_F hq7 hm
        iterate 3 (refine d_a [0, 1] tab_ok rfl ?_)
        refine d_tail ?_ (by kernel_rfl)
        refine s_a tab_ok rfl ?_
        refine tops_nil ?_
        refine way_then ?_
        exact ⟨_, [0, 1], (Option.some.inj hm).symm, rfl, k0, rfl⟩
      · replace hm := iteB_T hq7 hm
        obtain ⟨r8, hr8, hm⟩ := bind_inv hm
        refine d_x [0, 1] rfl rfl (rd_callRN rfl rfl snaps_nil (law21_alive_c hr8)) ?_
        iterate 2 (refine d_a [0, 1] tab_ok rfl ?_)
        refine d_tail ?_ (by kernel_rfl)
        refine s_a tab_ok rfl ?_
        refine tops_nil ?_
        refine way_then ?_
        exact ⟨_, [0, 1], (Option.some.inj hm).symm, rfl, k0, rfl⟩
    · replace hm := iteB_T hq4 hm
      iterate 11 (refine d_a [0, 1] tab_ok rfl ?_)
      refine d_tail ?_ (by kernel_rfl)
      refine s_a tab_ok rfl ?_
      refine tops_nil ?_
      refine way_then ?_
      exact ⟨_, [0, 1], (Option.some.inj hm).symm, rfl, k0, rfl⟩
  · refine w_norm [4] rfl rfl ?_
    refine twp_ret ?_
    obtain rfl := Option.some.inj hm
    exact EndsS.one _ rfl (.d _) (.refl _)

theorem ref21_Closed_c {p0 : Inputs} {p1 : Int} {r : Bool} (hm : ref21_Closed p0 p1 = some r) : RetN Try.prog 42 [p0.enc, .int .i64 p1] (.bool (r)) := by
  refine .unit (ret_bodyS callB42 Try.func42 rfl Try.ntmps42 rfl rfl (fun wX gX => ?_)) rfl
  unfold ref21_Closed at hm
  refine w_norm [0, 1] rfl rfl ?_
  refine twp_rseq ?_
  refine s_bx 0 rfl rfl rfl ?_
  refine s_a tab_ok rfl ?_
  refine tops_nil ?_
  refine w_norm [1, 2] rfl rfl ?_
  refine w_joinM hm (fun x1 => ([(4, .d (.bool (x1)))] : Fr)) (fun x1 => ([] : List (Nat × Blk))) [4] [] rfl (fun z2 hm => ?_) (fun x1 hm => ?_)
  · refine twp_region ?_
    iterate 2 (refine s_a tab_ok rfl ?_)
    refine s_b tab_ok rfl (fun q3 hq3 => ?_)
    cases q3
    · replace hm := ite_F hq3 hm
      iterate 3 (refine s_a tab_ok rfl ?_)
      refine s_x rfl rfl (x_len tab_ok rfl rfl rfl) ?_
      iterate 2 (refine s_a tab_ok rfl ?_)
      refine s_b tab_ok rfl (fun q4 hq4 => ?_)
      cases q4
      · replace hm := ite_F hq4 hm
        iterate 3 (refine s_a tab_ok rfl ?_)
        obtain ⟨e5, he5, hm⟩ := get_inv hm
        refine s_x rfl rfl (x_ix tab_ok rfl rfl rfl rfl he5) ?_
        iterate 3 (refine s_a tab_ok rfl ?_)
        refine tops_nil ?_
        refine way_then ?_
        exact ⟨_, [0], (Option.some.inj hm).symm, rfl, k0, rfl⟩
      · replace hm := ite_T hq4 hm
        iterate 7 (refine s_a tab_ok rfl ?_)
        refine tops_nil ?_
        refine way_then ?_
        exact ⟨_, [0], (Option.some.inj hm).symm, rfl, k0, rfl⟩
    · replace hm := ite_T hq3 hm
      iterate 14 (refine s_a tab_ok rfl ?_)
      refine tops_nil ?_
      refine way_then ?_
      exact ⟨_, [0], (Option.some.inj hm).symm, rfl, k0, rfl⟩
  · refine w_norm [4] rfl rfl ?_
    refine twp_ret ?_
    obtain rfl := Option.some.inj hm
    exact EndsS.one _ rfl (.d _) (.refl _)

theorem ref21_busy_c {p0 : Table} {p1 : Inter} {p2 : Int} {r : Bool} (hm : ref21_busy p0 p1 p2 = some r) : RetN Try.prog 43 [p0.enc, p1.enc, .int .i64 p2] (.bool (r)) := by
  refine .unit (ret_bodyS callB43 Try.func43 rfl Try.ntmps43 rfl rfl (fun wX gX => ?_)) rfl
  unfold ref21_busy at hm
  refine w_norm [0, 1, 2] rfl rfl ?_
  refine twp_rseq ?_
  refine s_bx 0 rfl rfl rfl ?_
  refine s_bx 1 rfl rfl rfl ?_
  refine s_a tab_ok rfl ?_
  refine tops_nil ?_
  refine w_norm [2, 3, 4] rfl rfl ?_
  refine twp_rseq ?_
  iterate 3 (refine s_a tab_ok rfl ?_)
  obtain ⟨e1, he1, hm⟩ := get_inv hm
  refine s_x rfl rfl (x_ix tab_ok rfl rfl rfl rfl he1) ?_
  refine s_a tab_ok rfl ?_
  refine s_al 2 rfl rfl zero48 rfl ?_
  refine s_wkb 2 [none, none, none, some 3, some 2, some 1, none, none, some 3, some 2, some 1, some 2, some 1, some 2] rfl rfl ?_
  refine s_a tab_ok rfl ?_
  refine tops_nil ?_
  refine w_norm [2, 3, 4, 7] rfl rfl ?_
  refine w_joinS hm (fun _ => ([] : Fr)) (fun _ => ([] : List (Nat × Blk))) [] [] rfl (fun z2 hm hz2 => ?_) (fun j hm => ?_)
  · refine twp_rseq ?_
    refine s_a tab_ok rfl ?_
    refine tops_nil ?_
    refine w_norm [2, 3, 4, 7, 8] rfl rfl ?_
    refine twp_block ?_
    refine w_loop hm (fun x4 => ([(8, .d (.int .i64 x4))] : Fr)) (fun x4 => ([] : List (Nat × Blk))) [8] [2, 3, 4, 7] [0, 1, 2] rfl k0 rfl rfl rfl rfl rfl (fun x4 z5 hm hz5 => ?_)
    refine w_norm [2, 3, 4, 7, 8] rfl rfl ?_
    refine twp_seq ?_
    refine twp_rseq ?_
    iterate 3 (refine s_a tab_ok rfl ?_)
    refine s_x rfl rfl (x_len tab_ok rfl rfl rfl) ?_
    refine s_a tab_ok rfl ?_
    refine tops_nil ?_
    refine w_norm [2, 3, 4, 7, 8, 20] rfl rfl ?_
    refine twp_cond _ rfl (fun h6 => ?_) (fun h6 => ?_)
    · replace hm := ite_T h6 hm
      refine twp_skip ?_
      refine way_then ?_
      refine w_norm [2, 3, 4, 7, 8] rfl rfl ?_
      refine twp_seq ?_
      refine twp_block ?_
      refine twp_seq ?_
      refine twp_rseq ?_
      iterate 3 (refine s_a tab_ok rfl ?_)
      refine tops_nil ?_
      refine w_norm [2, 3, 4, 7, 8, 25] rfl rfl ?_
      refine twp_cond _ rfl (fun h7 => ?_) (fun h7 => ?_)
      · replace hm := ite_T h7 hm
        refine twp_exit ?_
        refine way_thenExit ?_
        refine way_here ?_
        refine way_then ?_
        refine w_norm [2, 3, 4, 7, 8] rfl rfl ?_
        refine twp_region ?_
        refine s_a tab_ok rfl ?_
        obtain ⟨g8, hm⟩ := guard_inv hm
        refine s_x rfl rfl (x_ar rfl rfl rfl rfl g8) ?_
        refine s_a tab_ok rfl ?_
        refine tops_nil ?_
        refine way_then ?_
        exact ⟨_, [0, 1, 2], (Option.some.inj hm).symm, rfl, k0, rfl⟩
      · replace hm := ite_F h7 hm
        refine twp_skip ?_
        refine way_then ?_
        refine w_norm [2, 3, 4, 7, 8] rfl rfl ?_
        refine twp_dseq follows  ?_
        iterate 3 (refine d_a [0, 1, 2] tab_ok rfl ?_)
        obtain ⟨r9, hr9, hm⟩ := bind_inv hm
        refine d_x [0, 1, 2] rfl rfl (rd_callRD rfl rfl rfl (ref21_path_c hr9)) ?_
        iterate 3 (refine d_a [0, 1, 2] tab_ok rfl ?_)
        obtain ⟨r10, hr10, hm⟩ := bind_inv hm
        refine d_x [0, 1, 2] rfl rfl (rd_callRD rfl rfl rfl (ref21_over_c hr10)) ?_
        refine d_tail ?_ (by kernel_rfl)
        iterate 2 (refine s_a tab_ok rfl ?_)
        refine tops_nil ?_
        refine w_norm [2, 3, 4, 7, 8, 9, 10] rfl rfl ?_
        refine twp_seq ?_
        refine w_joinM hm (fun x11 => ([(63, .d (.bool (x11)))] : Fr)) (fun x11 => ([] : List (Nat × Blk))) [63] [2, 3, 4, 7, 8, 10] rfl (fun z12 hm => ?_) (fun x11 hm => ?_)
        · refine twp_region ?_
          iterate 3 (refine s_a tab_ok rfl ?_)
          obtain ⟨r13, hr13, hm⟩ := bind_inv hm
          refine s_x rfl rfl (rd_callRN rfl rfl (snaps_cons (.d _) (snaps_cons (.d _) snaps_nil)) (ref21_meet_c hr13)) ?_
          refine s_b tab_ok rfl (fun q14 hq14 => ?_)
          cases q14
          · replace hm := iteB_F hq14 hm
            iterate 3 (refine s_a tab_ok rfl ?_)
            obtain ⟨r15, hr15, hm⟩ := bind_inv hm
            refine s_x rfl rfl (rd_callRN rfl rfl (snaps_cons (.d _) (snaps_cons (.d _) snaps_nil)) (ref21_meet_c hr15)) ?_
            refine s_b tab_ok rfl (fun q16 hq16 => ?_)
            cases q16
            · replace hm := iteB_F hq16 hm
              iterate 11 (refine s_a tab_ok rfl ?_)
              obtain ⟨r17, hr17, hm⟩ := bind_inv hm
              refine s_x rfl rfl (rd_callRN rfl rfl (snaps_cons (.d _) (snaps_cons (.d _) snaps_nil)) (ref21_meet_c hr17)) ?_
              refine s_b tab_ok rfl (fun q18 hq18 => ?_)
              cases q18
              · replace hm := iteB_F hq18 hm
                iterate 7 (refine s_a tab_ok rfl ?_)
                refine tops_nil ?_
                refine way_then ?_
                exact ⟨_, [0, 1, 2], (Option.some.inj hm).symm, rfl, k0, rfl⟩
              · replace hm := iteB_T hq18 hm
                iterate 3 (refine s_a tab_ok rfl ?_)
                obtain ⟨r19, hr19, hm⟩ := bind_inv hm
                refine s_x rfl rfl (rd_callRN rfl rfl (snaps_cons (.d _) (snaps_cons (.d _) (snaps_cons (.d _) snaps_nil))) (ref21_follows_c hr19)) ?_
                iterate 3 (refine s_a tab_ok rfl ?_)
                refine tops_nil ?_
                refine way_then ?_
                exact ⟨_, [0, 1, 2], (Option.some.inj hm).symm, rfl, k0, rfl⟩
            · replace hm := iteB_T hq16 hm
              iterate 3 (refine s_a tab_ok rfl ?_)
              obtain ⟨r20, hr20, hm⟩ := bind_inv hm
              refine s_x rfl rfl (rd_callRN rfl rfl (snaps_cons (.d _) (snaps_cons (.d _) (snaps_cons (.d _) snaps_nil))) (ref21_follows_c hr20)) ?_
              iterate 3 (refine s_a tab_ok rfl ?_)
              refine s_b tab_ok rfl (fun q21 hq21 => ?_)
              cases q21
              · replace hm := iteB_F hq21 hm
                iterate 3 (refine s_a tab_ok rfl ?_)
                obtain ⟨r22, hr22, hm⟩ := bind_inv hm
                refine s_x rfl rfl (rd_callRN rfl rfl (snaps_cons (.d _) (snaps_cons (.d _) snaps_nil)) (ref21_meet_c hr22)) ?_
                refine s_b tab_ok rfl (fun q23 hq23 => ?_)
                cases q23
                · replace hm := iteB_F hq23 hm
                  iterate 7 (refine s_a tab_ok rfl ?_)
                  refine tops_nil ?_
                  refine way_then ?_
                  exact ⟨_, [0, 1, 2], (Option.some.inj hm).symm, rfl, k0, rfl⟩
                · replace hm := iteB_T hq23 hm
                  iterate 3 (refine s_a tab_ok rfl ?_)
                  obtain ⟨r24, hr24, hm⟩ := bind_inv hm
                  refine s_x rfl rfl (rd_callRN rfl rfl (snaps_cons (.d _) (snaps_cons (.d _) (snaps_cons (.d _) snaps_nil))) (ref21_follows_c hr24)) ?_
                  iterate 3 (refine s_a tab_ok rfl ?_)
                  refine tops_nil ?_
                  refine way_then ?_
                  exact ⟨_, [0, 1, 2], (Option.some.inj hm).symm, rfl, k0, rfl⟩
              · replace hm := iteB_T hq21 hm
                iterate 12 (refine s_a tab_ok rfl ?_)
                refine tops_nil ?_
                refine way_then ?_
                exact ⟨_, [0, 1, 2], (Option.some.inj hm).symm, rfl, k0, rfl⟩
          · replace hm := iteB_T hq14 hm
            iterate 25 (refine s_a tab_ok rfl ?_)
            refine tops_nil ?_
            refine way_then ?_
            exact ⟨_, [0, 1, 2], (Option.some.inj hm).symm, rfl, k0, rfl⟩
        · refine w_norm [2, 3, 4, 7, 8, 10, 63] rfl rfl ?_
          refine twp_cond _ rfl (fun h25 => ?_) (fun h25 => ?_)
          · replace hm := iteB_T h25 hm
            refine twp_rseq ?_
            refine s_a tab_ok rfl ?_
            refine tops_nil ?_
            refine w_norm [6] rfl rfl ?_
            refine twp_ret ?_
            refine way_thenRet ?_
            refine way_blockRet ?_
            refine way_thenRet ?_
            obtain ⟨v26, hm, hz⟩ := inr_inv hm
            rw [hz5 _ hz] at hm
            refine way_thenRet ?_
            refine way_blockRet ?_
            obtain ⟨v27, hm, hz⟩ := inr_inv hm
            rw [hz2 _ hz] at hm
            refine way_thenRet ?_
            obtain rfl := Option.some.inj hm
            exact EndsS.one _ rfl (.d _) (.refl _)
          · replace hm := iteB_F h25 hm
            refine twp_skip ?_
            refine way_then ?_
            refine w_norm [2, 3, 4, 7, 8, 10] rfl rfl ?_
            refine w_joinM hm (fun x28 => ([(81, .d (.bool (x28)))] : Fr)) (fun x28 => ([] : List (Nat × Blk))) [81] [2, 3, 4, 7, 8] rfl (fun z29 hm => ?_) (fun x28 hm => ?_)
            · refine twp_region ?_
              iterate 3 (refine s_a tab_ok rfl ?_)
              obtain ⟨r30, hr30, hm⟩ := bind_inv hm
              refine s_x rfl rfl (rd_callRN rfl rfl (snaps_cons (.d _) (snaps_cons (.d _) snaps_nil)) (ref21_meet_c hr30)) ?_
              refine s_b tab_ok rfl (fun q31 hq31 => ?_)
              cases q31
              · replace hm := iteB_F hq31 hm
                iterate 13 (refine s_a tab_ok rfl ?_)
                refine tops_nil ?_
                refine way_then ?_
                exact ⟨_, [0, 1, 2], (Option.some.inj hm).symm, rfl, k0, rfl⟩
              · replace hm := iteB_T hq31 hm
                iterate 3 (refine s_a tab_ok rfl ?_)
                obtain ⟨r32, hr32, hm⟩ := bind_inv hm
                refine s_x rfl rfl (rd_callRN rfl rfl (snaps_cons (.d _) (snaps_cons (.d _) (snaps_cons (.d _) snaps_nil))) (ref21_follows_c hr32)) ?_
                iterate 2 (refine s_a tab_ok rfl ?_)
                refine s_b tab_ok rfl (fun q33 hq33 => ?_)
                cases q33
                · replace hm := iteB_F hq33 hm
                  iterate 6 (refine s_a tab_ok rfl ?_)
                  refine tops_nil ?_
                  refine way_then ?_
                  exact ⟨_, [0, 1, 2], (Option.some.inj hm).symm, rfl, k0, rfl⟩
                · replace hm := iteB_T hq33 hm
                  iterate 3 (refine s_a tab_ok rfl ?_)
                  obtain ⟨r34, hr34, hm⟩ := bind_inv hm
                  refine s_x rfl rfl (rd_callRN rfl rfl (snaps_cons (.d _) (snaps_cons (.d _) (snaps_cons (.d _) snaps_nil))) (ref21_follows_c hr34)) ?_
                  iterate 2 (refine s_a tab_ok rfl ?_)
                  refine tops_nil ?_
                  refine way_then ?_
                  exact ⟨_, [0, 1, 2], (Option.some.inj hm).symm, rfl, k0, rfl⟩
            · refine w_norm [2, 3, 4, 7, 8, 81] rfl rfl ?_
              refine twp_cond _ rfl (fun h35 => ?_) (fun h35 => ?_)
              · replace hm := iteB_T h35 hm
                refine twp_rseq ?_
                refine s_a tab_ok rfl ?_
                refine tops_nil ?_
                refine w_norm [6] rfl rfl ?_
                refine twp_ret ?_
                refine way_blockRet ?_
                refine way_thenRet ?_
                obtain ⟨v36, hm, hz⟩ := inr_inv hm
                rw [hz5 _ hz] at hm
                refine way_thenRet ?_
                refine way_blockRet ?_
                obtain ⟨v37, hm, hz⟩ := inr_inv hm
                rw [hz2 _ hz] at hm
                refine way_thenRet ?_
                obtain rfl := Option.some.inj hm
                exact EndsS.one _ rfl (.d _) (.refl _)
              · replace hm := iteB_F h35 hm
                refine twp_skip ?_
                refine way_block ?_
                refine way_then ?_
                refine w_norm [2, 3, 4, 7, 8] rfl rfl ?_
                refine twp_region ?_
                refine s_a tab_ok rfl ?_
                obtain ⟨g38, hm⟩ := guard_inv hm
                refine s_x rfl rfl (x_ar rfl rfl rfl rfl g38) ?_
                refine s_a tab_ok rfl ?_
                refine tops_nil ?_
                refine way_then ?_
                exact ⟨_, [0, 1, 2], (Option.some.inj hm).symm, rfl, k0, rfl⟩
    · replace hm := ite_F h6 hm
      refine twp_exit ?_
      refine way_thenExit ?_
      obtain ⟨v39, hm, hz⟩ := inr_inv hm
      rw [hz5 _ hz] at hm
      refine way_thenExit ?_
      refine way_here ?_
      refine way_then ?_
      exact ⟨_, [0, 1, 2], (Option.some.inj hm).symm, rfl, k0, rfl⟩
  · refine w_norm [] rfl rfl ?_
    refine twp_rseq ?_
    refine s_a tab_ok rfl ?_
    refine tops_nil ?_
    refine w_norm [6] rfl rfl ?_
    refine twp_ret ?_
    obtain rfl := Option.some.inj hm
    exact EndsS.one _ rfl (.d _) (.refl _)

theorem ref21_contradicted_c {p0 : Table} {p1 : Inter} {p2 : Int} {r : Bool} (hm : ref21_contradicted p0 p1 p2 = some r) : RetN Try.prog 44 [p0.enc, p1.enc, .int .i64 p2] (.bool (r)) := by
  refine .unit (ret_bodyS callB44 Try.func44 rfl Try.ntmps44 rfl rfl (fun wX gX => ?_)) rfl
  unfold ref21_contradicted at hm
  refine w_norm [0, 1, 2] rfl rfl ?_
  refine twp_rseq ?_
  refine s_bx 0 rfl rfl rfl ?_
  refine s_bx 1 rfl rfl rfl ?_
  refine s_a tab_ok rfl ?_
  refine tops_nil ?_
  refine w_norm [2, 3, 4] rfl rfl ?_
  refine twp_rseq ?_
  iterate 3 (refine s_a tab_ok rfl ?_)
  obtain ⟨e1, he1, hm⟩ := get_inv hm
  refine s_x rfl rfl (x_ix tab_ok rfl rfl rfl rfl he1) ?_
  refine s_a tab_ok rfl ?_
  obtain ⟨r2, hr2, hm⟩ := bind_inv hm
  refine s_x rfl rfl (rd_callRD rfl rfl rfl (ref16_Settings_c hr2)) ?_
  refine s_a tab_ok rfl ?_
  refine tops_nil ?_
  refine w_norm [2, 3, 4, 7] rfl rfl ?_
  refine w_joinS hm (fun _ => ([] : Fr)) (fun _ => ([] : List (Nat × Blk))) [] [] rfl (fun z3 hm hz3 => ?_) (fun j hm => ?_)
  · refine twp_rseq ?_
    refine s_a tab_ok rfl ?_
    refine tops_nil ?_
    refine w_norm [2, 3, 4, 7, 8] rfl rfl ?_
    refine twp_block ?_
    refine w_loop hm (fun x5 => ([(8, .d (.int .i64 x5))] : Fr)) (fun x5 => ([] : List (Nat × Blk))) [8] [2, 3, 4, 7] [0, 1] rfl k0 rfl rfl rfl rfl rfl (fun x5 z6 hm hz6 => ?_)
    refine w_norm [2, 3, 4, 7, 8] rfl rfl ?_
    refine twp_seq ?_
    refine twp_rseq ?_
    iterate 3 (refine s_a tab_ok rfl ?_)
    refine s_x rfl rfl (x_len tab_ok rfl rfl rfl) ?_
    refine s_a tab_ok rfl ?_
    refine tops_nil ?_
    refine w_norm [2, 3, 4, 7, 8, 22] rfl rfl ?_
    refine twp_cond _ rfl (fun h7 => ?_) (fun h7 => ?_)
    · replace hm := ite_T h7 hm
      refine twp_skip ?_
      refine way_then ?_
      refine w_norm [2, 3, 4, 7, 8] rfl rfl ?_
      refine w_joinS hm (fun _ => ([] : Fr)) (fun _ => ([] : List (Nat × Blk))) [] [2, 3, 4, 7, 8] rfl (fun z8 hm hz8 => ?_) (fun j hm => ?_)
      · refine twp_block ?_
        refine twp_rseq ?_
        iterate 3 (refine s_a tab_ok rfl ?_)
        obtain ⟨r9, hr9, hm⟩ := bind_inv hm
        refine s_x rfl rfl (rd_callRD rfl rfl rfl (ref21_bound_c hr9)) ?_
        refine s_a tab_ok rfl ?_
        refine tops_nil ?_
        refine w_norm [2, 3, 4, 7, 8, 9] rfl rfl ?_
        refine twp_rseq ?_
        refine s_a tab_ok rfl ?_
        refine tops_nil ?_
        refine w_norm [2, 3, 4, 7, 8, 9, 10] rfl rfl ?_
        refine twp_block ?_
        refine w_loop hm (fun x11 => ([(10, .d (.int .i64 x11))] : Fr)) (fun x11 => ([] : List (Nat × Blk))) [10] [2, 3, 4, 7, 8, 9] [0, 1] rfl k0 rfl rfl rfl rfl rfl (fun x11 z12 hm hz12 => ?_)
        refine w_norm [2, 3, 4, 7, 8, 9, 10] rfl rfl ?_
        refine twp_seq ?_
        refine w_cut [(37, .d (.bool (((decide (x11 < (r9.length : Int))) && (!(decide (x5 = p2)))))))] [37] [2, 3, 4, 7, 8, 9, 10] rfl ?_ ?_
        · refine twp_region ?_
          iterate 2 (refine s_a tab_ok rfl ?_)
          refine s_x rfl rfl (x_len tab_ok rfl rfl rfl) ?_
          refine s_a tab_ok rfl ?_
          refine s_b tab_ok rfl (fun q13 hq13 => ?_)
          cases q13
          · iterate 4 (refine s_a tab_ok rfl ?_)
            refine tops_nil ?_
            refine way_then ?_
            exact ⟨[0, 1], rfl, k0, st_eq (fr_cons (av_bool (by simp [hq13])) rfl) rfl⟩
          · iterate 4 (refine s_a tab_ok rfl ?_)
            refine tops_nil ?_
            refine way_then ?_
            exact ⟨[0, 1], rfl, k0, st_eq (fr_cons (av_bool (by simp [hq13])) rfl) rfl⟩
        · refine w_norm [2, 3, 4, 7, 8, 9, 10, 37] rfl rfl ?_
          refine twp_cond _ rfl (fun h14 => ?_) (fun h14 => ?_)
          · replace hm := iteB_T h14 hm
            refine twp_skip ?_
            refine way_then ?_
            refine w_norm [2, 3, 4, 7, 8, 9, 10] rfl rfl ?_
            refine w_joinS hm (fun _ => ([] : Fr)) (fun _ => ([] : List (Nat × Blk))) [] [2, 3, 4, 7, 8, 9, 10] rfl (fun z15 hm hz15 => ?_) (fun j hm => ?_)
            · refine twp_block ?_
              refine twp_rseq ?_
              refine s_a tab_ok rfl ?_
              refine tops_nil ?_
              refine w_norm [2, 3, 4, 7, 8, 9, 10, 11] rfl rfl ?_
              refine twp_block ?_
              refine w_loop hm (fun x17 => ([(11, .d (.int .i64 x17))] : Fr)) (fun x17 => ([] : List (Nat × Blk))) [11] [2, 3, 4, 7, 8, 9, 10] [0, 1] rfl k0 rfl rfl rfl rfl rfl (fun x17 z18 hm hz18 => ?_)
              refine w_norm [2, 3, 4, 7, 8, 9, 10, 11] rfl rfl ?_
              refine twp_seq ?_
              refine twp_rseq ?_
              iterate 2 (refine s_a tab_ok rfl ?_)
              refine s_x rfl rfl (x_len tab_ok rfl rfl rfl) ?_
              refine s_a tab_ok rfl ?_
              refine tops_nil ?_
              refine w_norm [2, 3, 4, 7, 8, 9, 10, 11, 43] rfl rfl ?_
              refine twp_cond _ rfl (fun h19 => ?_) (fun h19 => ?_)
              · replace hm := ite_T h19 hm
                refine twp_skip ?_
                refine way_then ?_
                refine w_norm [2, 3, 4, 7, 8, 9, 10, 11] rfl rfl ?_
                refine twp_seq ?_
                refine twp_block ?_
                refine w_joinM hm (fun x20 => ([(69, .d (.bool (x20)))] : Fr)) (fun x20 => ([] : List (Nat × Blk))) [69] [2, 3, 4, 7, 8, 9, 10, 11] rfl (fun z21 hm => ?_) (fun x20 hm => ?_)
                · refine twp_draw follows  ?_
                  iterate 2 (refine d_a [0, 1] tab_ok rfl ?_)
                  obtain ⟨e22, he22, hm⟩ := get_inv hm
                  refine d_x [0, 1] rfl rfl (x_ix tab_ok rfl rfl rfl rfl he22) ?_
                  iterate 4 (refine d_a [0, 1] tab_ok rfl ?_)
                  obtain ⟨e23, he23, hm⟩ := get_inv hm
                  refine d_x [0, 1] rfl rfl (x_ix tab_ok rfl rfl rfl rfl he23) ?_
                  iterate 3 (refine d_a [0, 1] tab_ok rfl ?_)
                  refine d_b [0, 1] tab_ok rfl (fun q24 hq24 => ?_)
                  cases q24
                  · replace hm := ite_F hq24 hm
                    iterate 12 (refine d_a [0, 1] tab_ok rfl ?_)
                    refine d_tail ?_ (by kernel_rfl)
                    refine tops_nil ?_
                    refine way_then ?_
                    exact ⟨_, [0, 1], (Option.some.inj hm).symm, rfl, k0, rfl⟩
                  · replace hm := ite_T hq24 hm
                    iterate 2 (refine d_a [0, 1] tab_ok rfl ?_)
                    obtain ⟨e25, he25, hm⟩ := get_inv hm
                    refine d_x [0, 1] rfl rfl (x_ix tab_ok rfl rfl rfl rfl he25) ?_
                    iterate 4 (refine d_a [0, 1] tab_ok rfl ?_)
                    obtain ⟨e26, he26, hm⟩ := get_inv hm
                    refine d_x [0, 1] rfl rfl (x_ix tab_ok rfl rfl rfl rfl he26) ?_
                    iterate 4 (refine d_a [0, 1] tab_ok rfl ?_)
                    refine d_tail ?_ (by kernel_rfl)
                    refine tops_nil ?_
                    refine way_then ?_
                    exact ⟨_, [0, 1], (Option.some.inj hm).symm, rfl, k0, rfl⟩
                · refine w_norm [2, 3, 4, 7, 8, 9, 10, 11, 69] rfl rfl ?_
                  refine twp_cond _ rfl (fun h27 => ?_) (fun h27 => ?_)
                  · replace hm := iteB_T h27 hm
                    refine twp_rseq ?_
                    refine s_a tab_ok rfl ?_
                    refine tops_nil ?_
                    refine w_norm [6] rfl rfl ?_
                    refine twp_ret ?_
                    refine way_blockRet ?_
                    refine way_thenRet ?_
                    obtain ⟨v28, hm, hz⟩ := inr_inv hm
                    rw [hz18 _ hz] at hm
                    refine way_thenRet ?_
                    refine way_blockRet ?_
                    refine way_blockRet ?_
                    obtain ⟨v29, hm, hz⟩ := inr_inv hm
                    rw [hz15 _ hz] at hm
                    refine way_thenRet ?_
                    obtain ⟨v30, hm, hz⟩ := inr_inv hm
                    rw [hz12 _ hz] at hm
                    refine way_thenRet ?_
                    refine way_blockRet ?_
                    refine way_blockRet ?_
                    obtain ⟨v31, hm, hz⟩ := inr_inv hm
                    rw [hz8 _ hz] at hm
                    refine way_thenRet ?_
                    obtain ⟨v32, hm, hz⟩ := inr_inv hm
                    rw [hz6 _ hz] at hm
                    refine way_thenRet ?_
                    refine way_blockRet ?_
                    obtain ⟨v33, hm, hz⟩ := inr_inv hm
                    rw [hz3 _ hz] at hm
                    refine way_thenRet ?_
                    obtain rfl := Option.some.inj hm
                    exact EndsS.one _ rfl (.d _) (.refl _)
                  · replace hm := iteB_F h27 hm
                    refine twp_skip ?_
                    refine way_block ?_
                    refine way_then ?_
                    refine w_norm [2, 3, 4, 7, 8, 9, 10, 11] rfl rfl ?_
                    refine twp_region ?_
                    refine s_a tab_ok rfl ?_
                    obtain ⟨g34, hm⟩ := guard_inv hm
                    refine s_x rfl rfl (x_ar rfl rfl rfl rfl g34) ?_
                    refine s_a tab_ok rfl ?_
                    refine tops_nil ?_
                    refine way_then ?_
                    exact ⟨_, [0, 1], (Option.some.inj hm).symm, rfl, k0, rfl⟩
              · replace hm := ite_F h19 hm
                refine twp_exit ?_
                refine way_thenExit ?_
                obtain ⟨v35, hm, hz⟩ := inr_inv hm
                rw [hz18 _ hz] at hm
                refine way_thenExit ?_
                refine way_here ?_
                refine way_block ?_
                refine way_then ?_
                exact ⟨_, [0, 1], (Option.some.inj hm).symm, rfl, k0, rfl⟩
            · refine w_norm [2, 3, 4, 7, 8, 9, 10] rfl rfl ?_
              refine twp_region ?_
              refine s_a tab_ok rfl ?_
              obtain ⟨g36, hm⟩ := guard_inv hm
              refine s_x rfl rfl (x_ar rfl rfl rfl rfl g36) ?_
              refine s_a tab_ok rfl ?_
              refine tops_nil ?_
              refine way_then ?_
              exact ⟨_, [0, 1], (Option.some.inj hm).symm, rfl, k0, rfl⟩
          · replace hm := iteB_F h14 hm
            refine twp_exit ?_
            refine way_thenExit ?_
            obtain ⟨v37, hm, hz⟩ := inr_inv hm
            rw [hz12 _ hz] at hm
            refine way_thenExit ?_
            refine way_here ?_
            refine way_block ?_
            refine way_then ?_
            exact ⟨_, [0, 1], (Option.some.inj hm).symm, rfl, k0, rfl⟩
      · refine w_norm [2, 3, 4, 7, 8] rfl rfl ?_
        refine twp_region ?_
        refine s_a tab_ok rfl ?_
        obtain ⟨g38, hm⟩ := guard_inv hm
        refine s_x rfl rfl (x_ar rfl rfl rfl rfl g38) ?_
        refine s_a tab_ok rfl ?_
        refine tops_nil ?_
        refine way_then ?_
        exact ⟨_, [0, 1], (Option.some.inj hm).symm, rfl, k0, rfl⟩
    · replace hm := ite_F h7 hm
      refine twp_exit ?_
      refine way_thenExit ?_
      obtain ⟨v39, hm, hz⟩ := inr_inv hm
      rw [hz6 _ hz] at hm
      refine way_thenExit ?_
      refine way_here ?_
      refine way_then ?_
      exact ⟨_, [0, 1], (Option.some.inj hm).symm, rfl, k0, rfl⟩
  · refine w_norm [] rfl rfl ?_
    refine twp_rseq ?_
    refine s_a tab_ok rfl ?_
    refine tops_nil ?_
    refine w_norm [6] rfl rfl ?_
    refine twp_ret ?_
    obtain rfl := Option.some.inj hm
    exact EndsS.one _ rfl (.d _) (.refl _)

theorem ref21_occupied_c {p0 : Inputs} {p1 : Int} {r : Bool} (hm : ref21_occupied p0 p1 = some r) : RetN Try.prog 46 [p0.enc, .int .i64 p1] (.bool (r)) := by
  refine .unit (ret_bodyS callB46 Try.func46 rfl Try.ntmps46 rfl rfl (fun wX gX => ?_)) rfl
  unfold ref21_occupied at hm
  refine w_norm [0, 1] rfl rfl ?_
  refine twp_rseq ?_
  refine s_bx 0 rfl rfl rfl ?_
  refine s_a tab_ok rfl ?_
  refine tops_nil ?_
  refine w_norm [1, 2] rfl rfl ?_
  refine w_joinM hm (fun x1 => ([(4, .d (.bool (x1)))] : Fr)) (fun x1 => ([] : List (Nat × Blk))) [4] [] rfl (fun z2 hm => ?_) (fun x1 hm => ?_)
  · refine twp_region ?_
    iterate 2 (refine s_a tab_ok rfl ?_)
    refine s_b tab_ok rfl (fun q3 hq3 => ?_)
    cases q3
    · replace hm := ite_F hq3 hm
      iterate 3 (refine s_a tab_ok rfl ?_)
      refine s_x rfl rfl (x_len tab_ok rfl rfl rfl) ?_
      iterate 2 (refine s_a tab_ok rfl ?_)
      refine s_b tab_ok rfl (fun q4 hq4 => ?_)
      cases q4
      · replace hm := ite_F hq4 hm
        iterate 3 (refine s_a tab_ok rfl ?_)
        obtain ⟨e5, he5, hm⟩ := get_inv hm
        refine s_x rfl rfl (x_ix tab_ok rfl rfl rfl rfl he5) ?_
        iterate 3 (refine s_a tab_ok rfl ?_)
        refine tops_nil ?_
        refine way_then ?_
        exact ⟨_, [0], (Option.some.inj hm).symm, rfl, k0, rfl⟩
      · replace hm := ite_T hq4 hm
        iterate 7 (refine s_a tab_ok rfl ?_)
        refine tops_nil ?_
        refine way_then ?_
        exact ⟨_, [0], (Option.some.inj hm).symm, rfl, k0, rfl⟩
    · replace hm := ite_T hq3 hm
      iterate 14 (refine s_a tab_ok rfl ?_)
      refine tops_nil ?_
      refine way_then ?_
      exact ⟨_, [0], (Option.some.inj hm).symm, rfl, k0, rfl⟩
  · refine w_norm [4] rfl rfl ?_
    refine twp_ret ?_
    obtain rfl := Option.some.inj hm
    exact EndsS.one _ rfl (.d _) (.refl _)

theorem ref21_Free_c {p0 : Table} {p1 : Inter} {p2 : Inputs} {p3 : Int} {r : Int} (hm : ref21_Free p0 p1 p2 p3 = some r) : RetN Try.prog 22 [p0.enc, p1.enc, p2.enc, .int .i64 p3] (.int .i64 r) := by
  refine .unit (ret_bodyS callB22 Try.func22 rfl Try.ntmps22 rfl rfl (fun wX gX => ?_)) rfl
  unfold ref21_Free at hm
  refine w_norm [0, 1, 2, 3] rfl rfl ?_
  refine twp_rseq ?_
  refine s_bx 0 rfl rfl rfl ?_
  refine s_bx 1 rfl rfl rfl ?_
  refine s_bx 2 rfl rfl rfl ?_
  refine s_a tab_ok rfl ?_
  refine tops_nil ?_
  refine w_norm [3, 4, 5, 6] rfl rfl ?_
  refine twp_seq ?_
  refine w_joinM hm (fun x1 => ([(29, .d (.bool (x1)))] : Fr)) (fun x1 => ([] : List (Nat × Blk))) [29] [3, 4, 5, 6] rfl (fun z2 hm => ?_) (fun x1 hm => ?_)
  · refine twp_region ?_
    iterate 2 (refine s_a tab_ok rfl ?_)
    obtain ⟨r3, hr3, hm⟩ := bind_inv hm
    refine s_x rfl rfl (rd_callRN rfl rfl (snaps_cons (.d _) (snaps_cons (.d _) snaps_nil)) (ref21_Sound_c hr3)) ?_
    refine s_a tab_ok rfl ?_
    refine s_b tab_ok rfl (fun q4 hq4 => ?_)
    cases q4
    · replace hm := iteB_F hq4 hm
      iterate 3 (refine s_a tab_ok rfl ?_)
      refine s_b tab_ok rfl (fun q5 hq5 => ?_)
      cases q5
      · replace hm := ite_F hq5 hm
        iterate 3 (refine s_a tab_ok rfl ?_)
        refine s_x rfl rfl (x_len tab_ok rfl rfl rfl) ?_
        iterate 2 (refine s_a tab_ok rfl ?_)
        refine tops_nil ?_
        refine way_then ?_
        exact ⟨_, [0, 1, 2], (Option.some.inj hm).symm, rfl, k0, rfl⟩
      · replace hm := ite_T hq5 hm
        iterate 6 (refine s_a tab_ok rfl ?_)
        refine tops_nil ?_
        refine way_then ?_
        exact ⟨_, [0, 1, 2], (Option.some.inj hm).symm, rfl, k0, rfl⟩
    · replace hm := iteB_T hq4 hm
      iterate 10 (refine s_a tab_ok rfl ?_)
      refine tops_nil ?_
      refine way_then ?_
      exact ⟨_, [0, 1, 2], (Option.some.inj hm).symm, rfl, k0, rfl⟩
  · refine w_norm [3, 4, 5, 6, 29] rfl rfl ?_
    refine twp_cond _ rfl (fun h6 => ?_) (fun h6 => ?_)
    · replace hm := iteB_T h6 hm
      refine twp_rseq ?_
      refine s_a tab_ok rfl ?_
      refine tops_nil ?_
      refine w_norm [8] rfl rfl ?_
      refine twp_ret ?_
      refine way_thenRet ?_
      obtain rfl := Option.some.inj hm
      exact EndsS.one _ rfl (.d _) (.refl _)
    · replace hm := iteB_F h6 hm
      refine twp_skip ?_
      refine way_then ?_
      refine w_norm [3, 4, 5, 6] rfl rfl ?_
      refine twp_seq ?_
      refine twp_rseq ?_
      iterate 3 (refine s_a tab_ok rfl ?_)
      obtain ⟨e7, he7, hm⟩ := get_inv hm
      refine s_x rfl rfl (x_ix tab_ok rfl rfl rfl rfl he7) ?_
      iterate 3 (refine s_a tab_ok rfl ?_)
      refine tops_nil ?_
      refine w_norm [3, 4, 5, 6, 36] rfl rfl ?_
      refine twp_cond _ rfl (fun h8 => ?_) (fun h8 => ?_)
      · replace hm := iteN_T h8 hm
        refine twp_rseq ?_
        refine s_a tab_ok rfl ?_
        refine tops_nil ?_
        refine w_norm [8] rfl rfl ?_
        refine twp_ret ?_
        refine way_thenRet ?_
        obtain rfl := Option.some.inj hm
        exact EndsS.one _ rfl (.d _) (.refl _)
      · replace hm := iteN_F h8 hm
        refine twp_skip ?_
        refine way_then ?_
        refine w_norm [3, 4, 5, 6] rfl rfl ?_
        refine twp_rseq ?_
        iterate 3 (refine s_a tab_ok rfl ?_)
        obtain ⟨e9, he9, hm⟩ := get_inv hm
        refine s_x rfl rfl (x_ix tab_ok rfl rfl rfl rfl he9) ?_
        refine s_a tab_ok rfl ?_
        refine s_al 3 rfl rfl zero48 rfl ?_
        refine s_wkb 3 [none, none, none, some 3, some 2, some 1, none, none, some 3, some 2, some 1, some 2, some 1, some 2] rfl rfl ?_
        refine s_a tab_ok rfl ?_
        refine tops_nil ?_
        refine w_norm [3, 4, 5, 6, 9] rfl rfl ?_
        refine w_joinS hm (fun _ => ([] : Fr)) (fun _ => ([] : List (Nat × Blk))) [] [3, 4, 5, 6, 9] rfl (fun z10 hm hz10 => ?_) (fun j hm => ?_)
        · refine twp_rseq ?_
          refine s_a tab_ok rfl ?_
          refine tops_nil ?_
          refine w_norm [3, 4, 5, 6, 9, 10] rfl rfl ?_
          refine twp_block ?_
          refine w_loop hm (fun x12 => ([(10, .d (.int .i64 x12))] : Fr)) (fun x12 => ([] : List (Nat × Blk))) [10] [3, 4, 5, 6, 9] [0, 1, 2, 3] rfl k0 rfl rfl rfl rfl rfl (fun x12 z13 hm hz13 => ?_)
          refine w_norm [3, 4, 5, 6, 9, 10] rfl rfl ?_
          refine twp_seq ?_
          refine twp_rseq ?_
          iterate 3 (refine s_a tab_ok rfl ?_)
          refine s_x rfl rfl (x_len tab_ok rfl rfl rfl) ?_
          refine s_a tab_ok rfl ?_
          refine tops_nil ?_
          refine w_norm [3, 4, 5, 6, 9, 10, 46] rfl rfl ?_
          refine twp_cond _ rfl (fun h14 => ?_) (fun h14 => ?_)
          · replace hm := ite_T h14 hm
            refine twp_skip ?_
            refine way_then ?_
            refine w_norm [3, 4, 5, 6, 9, 10] rfl rfl ?_
            refine twp_seq ?_
            refine twp_block ?_
            refine twp_dseq follows  ?_
            iterate 4 (refine d_a [0, 1, 2, 3] tab_ok rfl ?_)
            obtain ⟨e15, he15, hm⟩ := get_inv hm
            refine d_x [0, 1, 2, 3] rfl rfl (x_ix tab_ok rfl rfl rfl rfl he15) ?_
            refine d_a [0, 1, 2, 3] tab_ok rfl ?_
            obtain ⟨r16, hr16, hm⟩ := bind_inv hm
            refine d_x [0, 1, 2, 3] rfl rfl (rd_callRN rfl rfl (snaps_cons (.d _) (snaps_cons (.d _) snaps_nil)) (ref21_Closed_c hr16)) ?_
            refine d_tail ?_ (by kernel_rfl)
            refine tops_nil ?_
            refine w_norm [3, 4, 5, 6, 9, 10, 55] rfl rfl ?_
            refine twp_cond _ rfl (fun h17 => ?_) (fun h17 => ?_)
            · replace hm := iteB_T h17 hm
              refine twp_rseq ?_
              refine s_a tab_ok rfl ?_
              refine tops_nil ?_
              refine w_norm [8] rfl rfl ?_
              refine twp_ret ?_
              refine way_blockRet ?_
              refine way_thenRet ?_
              obtain ⟨v18, hm, hz⟩ := inr_inv hm
              rw [hz13 _ hz] at hm
              refine way_thenRet ?_
              refine way_blockRet ?_
              obtain ⟨v19, hm, hz⟩ := inr_inv hm
              rw [hz10 _ hz] at hm
              refine way_thenRet ?_
              obtain rfl := Option.some.inj hm
              exact EndsS.one _ rfl (.d _) (.refl _)
            · replace hm := iteB_F h17 hm
              refine twp_skip ?_
              refine way_block ?_
              refine way_then ?_
              refine w_norm [3, 4, 5, 6, 9, 10] rfl rfl ?_
              refine twp_region ?_
              refine s_a tab_ok rfl ?_
              obtain ⟨g20, hm⟩ := guard_inv hm
              refine s_x rfl rfl (x_ar rfl rfl rfl rfl g20) ?_
              refine s_a tab_ok rfl ?_
              refine tops_nil ?_
              refine way_then ?_
              exact ⟨_, [0, 1, 2, 3], (Option.some.inj hm).symm, rfl, k0, rfl⟩
          · replace hm := ite_F h14 hm
            refine twp_exit ?_
            refine way_thenExit ?_
            obtain ⟨v21, hm, hz⟩ := inr_inv hm
            rw [hz13 _ hz] at hm
            refine way_thenExit ?_
            refine way_here ?_
            refine way_then ?_
            exact ⟨_, [0, 1, 2, 3], (Option.some.inj hm).symm, rfl, k0, rfl⟩
        · refine w_norm [3, 4, 5, 6, 9] rfl rfl ?_
          refine w_joinS hm (fun _ => ([] : Fr)) (fun _ => ([] : List (Nat × Blk))) [] [3, 4, 5, 6, 9] rfl (fun z22 hm hz22 => ?_) (fun j hm => ?_)
          · refine twp_rseq ?_
            refine s_a tab_ok rfl ?_
            refine tops_nil ?_
            refine w_norm [3, 4, 5, 6, 9, 11] rfl rfl ?_
            refine twp_block ?_
            refine w_loop hm (fun x24 => ([(11, .d (.int .i64 x24))] : Fr)) (fun x24 => ([] : List (Nat × Blk))) [11] [3, 4, 5, 6, 9] [0, 1, 2, 3] rfl k0 rfl rfl rfl rfl rfl (fun x24 z25 hm hz25 => ?_)
            refine w_norm [3, 4, 5, 6, 9, 11] rfl rfl ?_
            refine twp_seq ?_
            refine twp_rseq ?_
            iterate 3 (refine s_a tab_ok rfl ?_)
            refine s_x rfl rfl (x_len tab_ok rfl rfl rfl) ?_
            refine s_a tab_ok rfl ?_
            refine tops_nil ?_
            refine w_norm [3, 4, 5, 6, 9, 11, 60] rfl rfl ?_
            refine twp_cond _ rfl (fun h26 => ?_) (fun h26 => ?_)
            · replace hm := ite_T h26 hm
              refine twp_skip ?_
              refine way_then ?_
              refine w_norm [3, 4, 5, 6, 9, 11] rfl rfl ?_
              refine twp_seq ?_
              refine twp_block ?_
              refine twp_dseq follows  ?_
              iterate 4 (refine d_a [0, 1, 2, 3] tab_ok rfl ?_)
              obtain ⟨e27, he27, hm⟩ := get_inv hm
              refine d_x [0, 1, 2, 3] rfl rfl (x_ix tab_ok rfl rfl rfl rfl he27) ?_
              refine d_a [0, 1, 2, 3] tab_ok rfl ?_
              obtain ⟨r28, hr28, hm⟩ := bind_inv hm
              refine d_x [0, 1, 2, 3] rfl rfl (rd_callRN rfl rfl (snaps_cons (.d _) (snaps_cons (.d _) snaps_nil)) (ref21_Closed_c hr28)) ?_
              refine d_tail ?_ (by kernel_rfl)
              refine tops_nil ?_
              refine w_norm [3, 4, 5, 6, 9, 11, 69] rfl rfl ?_
              refine twp_cond _ rfl (fun h29 => ?_) (fun h29 => ?_)
              · replace hm := iteB_T h29 hm
                refine twp_rseq ?_
                refine s_a tab_ok rfl ?_
                refine tops_nil ?_
                refine w_norm [8] rfl rfl ?_
                refine twp_ret ?_
                refine way_blockRet ?_
                refine way_thenRet ?_
                obtain ⟨v30, hm, hz⟩ := inr_inv hm
                rw [hz25 _ hz] at hm
                refine way_thenRet ?_
                refine way_blockRet ?_
                obtain ⟨v31, hm, hz⟩ := inr_inv hm
                rw [hz22 _ hz] at hm
                refine way_thenRet ?_
                obtain rfl := Option.some.inj hm
                exact EndsS.one _ rfl (.d _) (.refl _)
              · replace hm := iteB_F h29 hm
                refine twp_skip ?_
                refine way_block ?_
                refine way_then ?_
                refine w_norm [3, 4, 5, 6, 9, 11] rfl rfl ?_
                refine twp_region ?_
                refine s_a tab_ok rfl ?_
                obtain ⟨g32, hm⟩ := guard_inv hm
                refine s_x rfl rfl (x_ar rfl rfl rfl rfl g32) ?_
                refine s_a tab_ok rfl ?_
                refine tops_nil ?_
                refine way_then ?_
                exact ⟨_, [0, 1, 2, 3], (Option.some.inj hm).symm, rfl, k0, rfl⟩
            · replace hm := ite_F h26 hm
              refine twp_exit ?_
              refine way_thenExit ?_
              obtain ⟨v33, hm, hz⟩ := inr_inv hm
              rw [hz25 _ hz] at hm
              refine way_thenExit ?_
              refine way_here ?_
              refine way_then ?_
              exact ⟨_, [0, 1, 2, 3], (Option.some.inj hm).symm, rfl, k0, rfl⟩
          · refine w_norm [3, 4, 5, 6, 9] rfl rfl ?_
            refine twp_seq ?_
            refine twp_rseq ?_
            iterate 3 (refine s_a tab_ok rfl ?_)
            obtain ⟨r34, hr34, hm⟩ := bind_inv hm
            refine s_x rfl rfl (rd_callRN rfl rfl (snaps_cons (.d _) (snaps_cons (.d _) (snaps_cons (.d _) snaps_nil))) (ref21_busy_c hr34)) ?_
            refine tops_nil ?_
            refine w_norm [3, 4, 5, 6, 9, 73] rfl rfl ?_
            refine twp_cond _ rfl (fun h35 => ?_) (fun h35 => ?_)
            · replace hm := iteB_T h35 hm
              refine twp_rseq ?_
              refine s_a tab_ok rfl ?_
              refine tops_nil ?_
              refine w_norm [8] rfl rfl ?_
              refine twp_ret ?_
              refine way_thenRet ?_
              obtain rfl := Option.some.inj hm
              exact EndsS.one _ rfl (.d _) (.refl _)
            · replace hm := iteB_F h35 hm
              refine twp_skip ?_
              refine way_then ?_
              refine w_norm [3, 4, 5, 6, 9] rfl rfl ?_
              refine twp_seq ?_
              refine twp_rseq ?_
              iterate 3 (refine s_a tab_ok rfl ?_)
              obtain ⟨r36, hr36, hm⟩ := bind_inv hm
              refine s_x rfl rfl (rd_callRN rfl rfl (snaps_cons (.d _) (snaps_cons (.d _) (snaps_cons (.d _) snaps_nil))) (ref21_contradicted_c hr36)) ?_
              refine tops_nil ?_
              refine w_norm [4, 5, 6, 9, 77] rfl rfl ?_
              refine twp_cond _ rfl (fun h37 => ?_) (fun h37 => ?_)
              · replace hm := iteB_T h37 hm
                refine twp_rseq ?_
                refine s_a tab_ok rfl ?_
                refine tops_nil ?_
                refine w_norm [8] rfl rfl ?_
                refine twp_ret ?_
                refine way_thenRet ?_
                obtain rfl := Option.some.inj hm
                exact EndsS.one _ rfl (.d _) (.refl _)
              · replace hm := iteB_F h37 hm
                refine twp_skip ?_
                refine way_then ?_
                refine w_norm [4, 5, 6, 9] rfl rfl ?_
                refine twp_rseq ?_
                refine s_a tab_ok rfl ?_
                obtain ⟨r38, hr38, hm⟩ := bind_inv hm
                refine s_x rfl rfl (rd_callRD rfl rfl rfl (ref16_Settings_c hr38)) ?_
                refine s_a tab_ok rfl ?_
                refine tops_nil ?_
                refine w_norm [4, 5, 6, 12] rfl rfl ?_
                refine w_joinS hm (fun _ => ([] : Fr)) (fun _ => ([] : List (Nat × Blk))) [] [] rfl (fun z39 hm hz39 => ?_) (fun j hm => ?_)
                · refine twp_rseq ?_
                  refine s_a tab_ok rfl ?_
                  refine tops_nil ?_
                  refine w_norm [4, 5, 6, 12, 13] rfl rfl ?_
                  refine twp_block ?_
                  refine w_loop hm (fun x41 => ([(13, .d (.int .i64 x41))] : Fr)) (fun x41 => ([] : List (Nat × Blk))) [13] [4, 5, 6, 12] [0, 1, 2, 3] rfl k0 rfl rfl rfl rfl rfl (fun x41 z42 hm hz42 => ?_)
                  refine w_norm [4, 5, 6, 12, 13] rfl rfl ?_
                  refine twp_seq ?_
                  refine twp_rseq ?_
                  iterate 2 (refine s_a tab_ok rfl ?_)
                  refine s_x rfl rfl (x_len tab_ok rfl rfl rfl) ?_
                  refine s_a tab_ok rfl ?_
                  refine tops_nil ?_
                  refine w_norm [4, 5, 6, 12, 13, 83] rfl rfl ?_
                  refine twp_cond _ rfl (fun h43 => ?_) (fun h43 => ?_)
                  · replace hm := ite_T h43 hm
                    refine twp_skip ?_
                    refine way_then ?_
                    refine w_norm [4, 5, 6, 12, 13] rfl rfl ?_
                    refine twp_seq ?_
                    refine twp_block ?_
                    refine twp_dseq follows  ?_
                    iterate 3 (refine d_a [0, 1, 2, 3] tab_ok rfl ?_)
                    obtain ⟨e44, he44, hm⟩ := get_inv hm
                    refine d_x [0, 1, 2, 3] rfl rfl (x_ix tab_ok rfl rfl rfl rfl he44) ?_
                    iterate 2 (refine d_a [0, 1, 2, 3] tab_ok rfl ?_)
                    obtain ⟨r45, hr45, hm⟩ := bind_inv hm
                    refine d_x [0, 1, 2, 3] rfl rfl (rd_callRN rfl rfl (snaps_cons (.d _) (snaps_cons (.d _) snaps_nil)) (ref16_Index_c hr45)) ?_
                    refine d_tail ?_ (by kernel_rfl)
                    refine s_a tab_ok rfl ?_
                    refine tops_nil ?_
                    refine w_norm [4, 5, 6, 12, 13, 14] rfl rfl ?_
                    refine w_joinM hm (fun x46 => ([(112, .d (.bool (x46)))] : Fr)) (fun x46 => ([] : List (Nat × Blk))) [112] [4, 5, 6, 12, 13] rfl (fun z47 hm => ?_) (fun x46 hm => ?_)
                    · refine twp_draw follows  ?_
                      iterate 3 (refine d_a [0, 1, 2, 3] tab_ok rfl ?_)
                      obtain ⟨e48, he48, hm⟩ := get_inv hm
                      refine d_x [0, 1, 2, 3] rfl rfl (x_ix tab_ok rfl rfl rfl rfl he48) ?_
                      iterate 3 (refine d_a [0, 1, 2, 3] tab_ok rfl ?_)
                      obtain ⟨e49, he49, hm⟩ := get_inv hm
                      refine d_x [0, 1, 2, 3] rfl rfl (x_ix tab_ok rfl rfl rfl rfl he49) ?_
                      iterate 3 (refine d_a [0, 1, 2, 3] tab_ok rfl ?_)
                      refine d_b [0, 1, 2, 3] tab_ok rfl (fun q50 hq50 => ?_)
                      cases q50
                      · replace hm := iteN_F hq50 hm
                        iterate 8 (refine d_a [0, 1, 2, 3] tab_ok rfl ?_)
                        refine d_tail ?_ (by kernel_rfl)
                        refine tops_nil ?_
                        refine way_then ?_
                        exact ⟨_, [0, 1, 2, 3], (Option.some.inj hm).symm, rfl, k0, rfl⟩
                      · replace hm := iteN_T hq50 hm
                        iterate 4 (refine d_a [0, 1, 2, 3] tab_ok rfl ?_)
                        obtain ⟨e51, he51, hm⟩ := get_inv hm
                        refine d_x [0, 1, 2, 3] rfl rfl (x_ix tab_ok rfl rfl rfl rfl he51) ?_
                        refine d_a [0, 1, 2, 3] tab_ok rfl ?_
                        obtain ⟨r52, hr52, hm⟩ := bind_inv hm
                        refine d_x [0, 1, 2, 3] rfl rfl (rd_callRN rfl rfl (snaps_cons (.d _) (snaps_cons (.d _) snaps_nil)) (ref21_occupied_c hr52)) ?_
                        refine d_a [0, 1, 2, 3] tab_ok rfl ?_
                        refine d_tail ?_ (by kernel_rfl)
                        refine tops_nil ?_
                        refine way_then ?_
                        exact ⟨_, [0, 1, 2, 3], (Option.some.inj hm).symm, rfl, k0, rfl⟩
                    · refine w_norm [4, 5, 6, 12, 13, 112] rfl rfl ?_
                      refine twp_cond _ rfl (fun h53 => ?_) (fun h53 => ?_)
                      · replace hm := iteB_T h53 hm
                        refine twp_rseq ?_
                        refine s_a tab_ok rfl ?_
                        refine tops_nil ?_
                        refine w_norm [8] rfl rfl ?_
                        refine twp_ret ?_
                        refine way_blockRet ?_
                        refine way_thenRet ?_
                        obtain ⟨v54, hm, hz⟩ := inr_inv hm
                        rw [hz42 _ hz] at hm
                        refine way_thenRet ?_
                        refine way_blockRet ?_
                        obtain ⟨v55, hm, hz⟩ := inr_inv hm
                        rw [hz39 _ hz] at hm
                        refine way_thenRet ?_
                        obtain rfl := Option.some.inj hm
                        exact EndsS.one _ rfl (.d _) (.refl _)
                      · replace hm := iteB_F h53 hm
                        refine twp_skip ?_
                        refine way_block ?_
                        refine way_then ?_
                        refine w_norm [4, 5, 6, 12, 13] rfl rfl ?_
                        refine twp_region ?_
                        refine s_a tab_ok rfl ?_
                        obtain ⟨g56, hm⟩ := guard_inv hm
                        refine s_x rfl rfl (x_ar rfl rfl rfl rfl g56) ?_
                        refine s_a tab_ok rfl ?_
                        refine tops_nil ?_
                        refine way_then ?_
                        exact ⟨_, [0, 1, 2, 3], (Option.some.inj hm).symm, rfl, k0, rfl⟩
                  · replace hm := ite_F h43 hm
                    refine twp_exit ?_
                    refine way_thenExit ?_
                    obtain ⟨v57, hm, hz⟩ := inr_inv hm
                    rw [hz42 _ hz] at hm
                    refine way_thenExit ?_
                    refine way_here ?_
                    refine way_then ?_
                    exact ⟨_, [0, 1, 2, 3], (Option.some.inj hm).symm, rfl, k0, rfl⟩
                · refine w_norm [] rfl rfl ?_
                  refine twp_rseq ?_
                  refine s_a tab_ok rfl ?_
                  refine tops_nil ?_
                  refine w_norm [8] rfl rfl ?_
                  refine twp_ret ?_
                  obtain rfl := Option.some.inj hm
                  exact EndsS.one _ rfl (.d _) (.refl _)

end Go.Proofs.Ytckkkfgjgjoemaa
