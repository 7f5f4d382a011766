/- The functions return what their models yield. No condition. -/
import Derived.Test.YtckkkfgjgjoemaaGnU
import Derived.Test.YtckkkfgjgjoemaaGnM
import Derived.Test.YtckkkfgjgjoemaaGnW5
set_option maxHeartbeats 400000
set_option linter.unusedSimpArgs false
set_option linter.unusedVariables false
set_option maxRecDepth 20000
namespace Go.Proofs.Ytckkkfgjgjoemaa
open Go Go.TL

theorem ref21_Fits_c {p0 : Table} {p1 : Inter} {r : Bool} (hm : ref21_Fits p0 p1 = some r) : RetN Try.prog 36 [p0.enc, p1.enc] (.bool (r)) := by
  refine .unit (ret_bodyS callB36 Try.func36 rfl Try.ntmps36 rfl rfl (fun wX gX => ?_)) rfl
  unfold ref21_Fits at hm
  refine w_norm [0, 1] rfl rfl ?_
  refine twp_rseq ?_
  refine s_bx 0 rfl rfl rfl ?_
  refine s_bx 1 rfl rfl rfl ?_
  refine s_a tab_ok rfl ?_
  refine tops_nil ?_
  refine w_norm [2, 3] rfl rfl ?_
  refine twp_seq ?_
  refine w_joinM hm (fun x1 => ([(27, .d (.bool (x1)))] : Fr)) (fun x1 => ([] : List (Nat × Blk))) [27] [2, 3] rfl (fun z2 hm => ?_) (fun x1 hm => ?_)
  · refine twp_region ?_
    refine s_a tab_ok rfl ?_
    obtain ⟨r3, hr3, hm⟩ := bind_inv hm
    refine s_x rfl rfl (rd_callRN rfl rfl (snaps_cons (.d _) snaps_nil) (ref16_Check_c hr3)) ?_
    refine s_a tab_ok rfl ?_
    refine s_b tab_ok rfl (fun q4 hq4 => ?_)
    cases q4
    · replace hm := iteN_F hq4 hm
      iterate 2 (refine s_a tab_ok rfl ?_)
      refine s_x rfl rfl (x_len tab_ok rfl rfl rfl) ?_
      iterate 2 (refine s_a tab_ok rfl ?_)
      refine s_x rfl rfl (x_len tab_ok rfl rfl rfl) ?_
      iterate 2 (refine s_a tab_ok rfl ?_)
      refine s_b tab_ok rfl (fun q5 hq5 => ?_)
      cases q5
      · replace hm := iteN_F hq5 hm
        iterate 2 (refine s_a tab_ok rfl ?_)
        refine s_x rfl rfl (x_len tab_ok rfl rfl rfl) ?_
        iterate 2 (refine s_a tab_ok rfl ?_)
        refine s_x rfl rfl (x_len tab_ok rfl rfl rfl) ?_
        iterate 2 (refine s_a tab_ok rfl ?_)
        refine tops_nil ?_
        refine way_then ?_
        exact ⟨_, [0, 1], (Option.some.inj hm).symm, rfl, k0, rfl⟩
      · replace hm := iteN_T hq5 hm
        iterate 8 (refine s_a tab_ok rfl ?_)
        refine tops_nil ?_
        refine way_then ?_
        exact ⟨_, [0, 1], (Option.some.inj hm).symm, rfl, k0, rfl⟩
    · replace hm := iteN_T hq4 hm
      iterate 17 (refine s_a tab_ok rfl ?_)
      refine tops_nil ?_
      refine way_then ?_
      exact ⟨_, [0, 1], (Option.some.inj hm).symm, rfl, k0, rfl⟩
  · refine w_norm [2, 3, 27] rfl rfl ?_
    refine twp_cond _ rfl (fun h6 => ?_) (fun h6 => ?_)
    · replace hm := iteB_T h6 hm
      refine twp_rseq ?_
      refine s_a tab_ok rfl ?_
      refine tops_nil ?_
      refine w_norm [4] rfl rfl ?_
      refine twp_ret ?_
      refine way_thenRet ?_
      obtain rfl := Option.some.inj hm
      exact EndsS.one _ rfl (.d _) (.refl _)
    · replace hm := iteB_F h6 hm
      refine twp_skip ?_
      refine way_then ?_
      refine w_norm [2, 3] rfl rfl ?_
      refine w_joinS hm (fun _ => ([] : Fr)) (fun _ => ([] : List (Nat × Blk))) [] [3] rfl (fun z7 hm hz7 => ?_) (fun j hm => ?_)
      · refine twp_rseq ?_
        refine s_a tab_ok rfl ?_
        refine tops_nil ?_
        refine w_norm [2, 3, 5] rfl rfl ?_
        refine twp_block ?_
        refine w_loop hm (fun x9 => ([(5, .d (.int .i64 x9))] : Fr)) (fun x9 => ([] : List (Nat × Blk))) [5] [2, 3] [0, 1] rfl k0 rfl rfl rfl rfl rfl (fun x9 z10 hm hz10 => ?_)
        refine w_norm [2, 3, 5] rfl rfl ?_
        refine twp_seq ?_
        refine twp_rseq ?_
        iterate 3 (refine s_a tab_ok rfl ?_)
        refine s_x rfl rfl (x_len tab_ok rfl rfl rfl) ?_
        refine s_a tab_ok rfl ?_
        refine tops_nil ?_
        refine w_norm [2, 3, 5, 32] rfl rfl ?_
        refine twp_cond _ rfl (fun h11 => ?_) (fun h11 => ?_)
        · replace hm := ite_T h11 hm
          refine twp_skip ?_
          refine way_then ?_
          refine w_norm [2, 3, 5] rfl rfl ?_
          refine twp_seq ?_
          refine twp_block ?_
          refine twp_dseq follows  ?_
          iterate 3 (refine d_a [0, 1] tab_ok rfl ?_)
          obtain ⟨e12, he12, hm⟩ := get_inv hm
          refine d_x [0, 1] rfl rfl (x_ix tab_ok rfl rfl rfl rfl he12) ?_
          iterate 4 (refine d_a [0, 1] tab_ok rfl ?_)
          obtain ⟨e13, he13, hm⟩ := get_inv hm
          refine d_x [0, 1] rfl rfl (x_ix tab_ok rfl rfl rfl rfl he13) ?_
          iterate 2 (refine d_a [0, 1] tab_ok rfl ?_)
          refine d_x [0, 1] rfl rfl (x_len tab_ok rfl rfl rfl) ?_
          obtain ⟨r14, hr14, hm⟩ := bind_inv hm
          refine d_x [0, 1] rfl rfl (rd_callRN rfl rfl (snaps_cons (.d _) (snaps_cons (.d _) snaps_nil)) (ref21_fitsRoute_c hr14)) ?_
          refine d_a [0, 1] tab_ok rfl ?_
          refine d_tail ?_ (by kernel_rfl)
          refine tops_nil ?_
          refine w_norm [2, 3, 5, 48] rfl rfl ?_
          refine twp_cond _ rfl (fun h15 => ?_) (fun h15 => ?_)
          · replace hm := iteB_T h15 hm
            refine twp_rseq ?_
            refine s_a tab_ok rfl ?_
            refine tops_nil ?_
            refine w_norm [4] rfl rfl ?_
            refine twp_ret ?_
            refine way_blockRet ?_
            refine way_thenRet ?_
            obtain ⟨v16, hm, hz⟩ := inr_inv hm
            rw [hz10 _ hz] at hm
            refine way_thenRet ?_
            refine way_blockRet ?_
            obtain ⟨v17, hm, hz⟩ := inr_inv hm
            rw [hz7 _ hz] at hm
            refine way_thenRet ?_
            obtain rfl := Option.some.inj hm
            exact EndsS.one _ rfl (.d _) (.refl _)
          · replace hm := iteB_F h15 hm
            refine twp_skip ?_
            refine way_block ?_
            refine way_then ?_
            refine w_norm [2, 3, 5] rfl rfl ?_
            refine twp_region ?_
            refine s_a tab_ok rfl ?_
            obtain ⟨g18, hm⟩ := guard_inv hm
            refine s_x rfl rfl (x_ar rfl rfl rfl rfl g18) ?_
            refine s_a tab_ok rfl ?_
            refine tops_nil ?_
            refine way_then ?_
            exact ⟨_, [0, 1], (Option.some.inj hm).symm, rfl, k0, rfl⟩
        · replace hm := ite_F h11 hm
          refine twp_exit ?_
          refine way_thenExit ?_
          obtain ⟨v19, hm, hz⟩ := inr_inv hm
          rw [hz10 _ hz] at hm
          refine way_thenExit ?_
          refine way_here ?_
          refine way_then ?_
          exact ⟨_, [0, 1], (Option.some.inj hm).symm, rfl, k0, rfl⟩
      · refine w_norm [3] rfl rfl ?_
        refine w_joinS hm (fun _ => ([] : Fr)) (fun _ => ([] : List (Nat × Blk))) [] [] rfl (fun z20 hm hz20 => ?_) (fun j hm => ?_)
        · refine twp_rseq ?_
          refine s_a tab_ok rfl ?_
          refine tops_nil ?_
          refine w_norm [3, 6] rfl rfl ?_
          refine twp_block ?_
          refine w_loop hm (fun x22 => ([(6, .d (.int .i64 x22))] : Fr)) (fun x22 => ([] : List (Nat × Blk))) [6] [3] [0, 1] rfl k0 rfl rfl rfl rfl rfl (fun x22 z23 hm hz23 => ?_)
          refine w_norm [3, 6] rfl rfl ?_
          refine twp_seq ?_
          refine twp_rseq ?_
          iterate 3 (refine s_a tab_ok rfl ?_)
          refine s_x rfl rfl (x_len tab_ok rfl rfl rfl) ?_
          refine s_a tab_ok rfl ?_
          refine tops_nil ?_
          refine w_norm [3, 6, 53] rfl rfl ?_
          refine twp_cond _ rfl (fun h24 => ?_) (fun h24 => ?_)
          · replace hm := ite_T h24 hm
            refine twp_skip ?_
            refine way_then ?_
            refine w_norm [3, 6] rfl rfl ?_
            refine twp_seq ?_
            refine twp_block ?_
            refine w_joinM hm (fun x25 => ([(69, .d (.bool (x25)))] : Fr)) (fun x25 => ([] : List (Nat × Blk))) [69] [3, 6] rfl (fun z26 hm => ?_) (fun x25 hm => ?_)
            · refine twp_region ?_
              iterate 3 (refine s_a tab_ok rfl ?_)
              obtain ⟨e27, he27, hm⟩ := get_inv hm
              refine s_x rfl rfl (x_ix tab_ok rfl rfl rfl rfl he27) ?_
              iterate 2 (refine s_a tab_ok rfl ?_)
              refine s_b tab_ok rfl (fun q28 hq28 => ?_)
              cases q28
              · replace hm := iteN_F hq28 hm
                iterate 7 (refine s_a tab_ok rfl ?_)
                refine tops_nil ?_
                refine way_then ?_
                exact ⟨_, [0, 1], (Option.some.inj hm).symm, rfl, k0, rfl⟩
              · replace hm := iteN_T hq28 hm
                iterate 3 (refine s_a tab_ok rfl ?_)
                obtain ⟨e29, he29, hm⟩ := get_inv hm
                refine s_x rfl rfl (x_ix tab_ok rfl rfl rfl rfl he29) ?_
                iterate 3 (refine s_a tab_ok rfl ?_)
                refine tops_nil ?_
                refine way_then ?_
                exact ⟨_, [0, 1], (Option.some.inj hm).symm, rfl, k0, rfl⟩
            · refine w_norm [3, 6, 69] rfl rfl ?_
              refine twp_cond _ rfl (fun h30 => ?_) (fun h30 => ?_)
              · replace hm := iteB_T h30 hm
                refine twp_rseq ?_
                refine s_a tab_ok rfl ?_
                refine tops_nil ?_
                refine w_norm [4] rfl rfl ?_
                refine twp_ret ?_
                refine way_blockRet ?_
                refine way_thenRet ?_
                obtain ⟨v31, hm, hz⟩ := inr_inv hm
                rw [hz23 _ hz] at hm
                refine way_thenRet ?_
                refine way_blockRet ?_
                obtain ⟨v32, hm, hz⟩ := inr_inv hm
                rw [hz20 _ hz] at hm
                refine way_thenRet ?_
                obtain rfl := Option.some.inj hm
                exact EndsS.one _ rfl (.d _) (.refl _)
              · replace hm := iteB_F h30 hm
                refine twp_skip ?_
                refine way_block ?_
                refine way_then ?_
                refine w_norm [3, 6] rfl rfl ?_
                refine twp_region ?_
                refine s_a tab_ok rfl ?_
                obtain ⟨g33, hm⟩ := guard_inv hm
                refine s_x rfl rfl (x_ar rfl rfl rfl rfl g33) ?_
                refine s_a tab_ok rfl ?_
                refine tops_nil ?_
                refine way_then ?_
                exact ⟨_, [0, 1], (Option.some.inj hm).symm, rfl, k0, rfl⟩
          · replace hm := ite_F h24 hm
            refine twp_exit ?_
            refine way_thenExit ?_
            obtain ⟨v34, hm, hz⟩ := inr_inv hm
            rw [hz23 _ hz] at hm
            refine way_thenExit ?_
            refine way_here ?_
            refine way_then ?_
            exact ⟨_, [0, 1], (Option.some.inj hm).symm, rfl, k0, rfl⟩
        · refine w_norm [] rfl rfl ?_
          refine twp_rseq ?_
          refine s_a tab_ok rfl ?_
          refine tops_nil ?_
          refine w_norm [4] rfl rfl ?_
          refine twp_ret ?_
          obtain rfl := Option.some.inj hm
          exact EndsS.one _ rfl (.d _) (.refl _)

theorem ref21_locked_c {p0 : Table} {p1 : Inter} {p2 : Int} {r : Bool} (hm : ref21_locked p0 p1 p2 = some r) : RetN Try.prog 27 [p0.enc, p1.enc, .int .i64 p2] (.bool (r)) := by
  refine .unit (ret_bodyS callB27 Try.func27 rfl Try.ntmps27 rfl rfl (fun wX gX => ?_)) rfl
  unfold ref21_locked at hm
  refine w_norm [0, 1, 2] rfl rfl ?_
  refine twp_rseq ?_
  refine s_bx 0 rfl rfl rfl ?_
  refine s_bx 1 rfl rfl rfl ?_
  refine s_a tab_ok rfl ?_
  refine tops_nil ?_
  refine w_norm [2, 3, 4] rfl rfl ?_
  refine w_joinM hm (fun x1 => ([(6, .d (.bool (x1)))] : Fr)) (fun x1 => ([] : List (Nat × Blk))) [6] [] rfl (fun z2 hm => ?_) (fun x1 hm => ?_)
  · refine twp_region ?_
    iterate 2 (refine s_a tab_ok rfl ?_)
    refine s_b tab_ok rfl (fun q3 hq3 => ?_)
    cases q3
    · replace hm := ite_F hq3 hm
      iterate 21 (refine s_a tab_ok rfl ?_)
      refine tops_nil ?_
      refine way_then ?_
      exact ⟨_, [0, 1], (Option.some.inj hm).symm, rfl, k0, rfl⟩
    · replace hm := ite_T hq3 hm
      iterate 3 (refine s_a tab_ok rfl ?_)
      refine s_x rfl rfl (x_len tab_ok rfl rfl rfl) ?_
      iterate 2 (refine s_a tab_ok rfl ?_)
      refine s_b tab_ok rfl (fun q4 hq4 => ?_)
      cases q4
      · replace hm := ite_F hq4 hm
        iterate 14 (refine s_a tab_ok rfl ?_)
        refine tops_nil ?_
        refine way_then ?_
        exact ⟨_, [0, 1], (Option.some.inj hm).symm, rfl, k0, rfl⟩
      · replace hm := ite_T hq4 hm
        iterate 2 (refine s_a tab_ok rfl ?_)
        obtain ⟨r5, hr5, hm⟩ := bind_inv hm
        refine s_x rfl rfl (rd_callRN rfl rfl (snaps_cons (.d _) (snaps_cons (.d _) snaps_nil)) (ref21_Fits_c hr5)) ?_
        refine s_a tab_ok rfl ?_
        refine s_b tab_ok rfl (fun q6 hq6 => ?_)
        cases q6
        · replace hm := iteB_F hq6 hm
          iterate 9 (refine s_a tab_ok rfl ?_)
          refine tops_nil ?_
          refine way_then ?_
          exact ⟨_, [0, 1], (Option.some.inj hm).symm, rfl, k0, rfl⟩
        · replace hm := iteB_T hq6 hm
          iterate 3 (refine s_a tab_ok rfl ?_)
          obtain ⟨e7, he7, hm⟩ := get_inv hm
          refine s_x rfl rfl (x_ix tab_ok rfl rfl rfl rfl he7) ?_
          iterate 5 (refine s_a tab_ok rfl ?_)
          refine tops_nil ?_
          refine way_then ?_
          exact ⟨_, [0, 1], (Option.some.inj hm).symm, rfl, k0, rfl⟩
  · refine w_norm [6] rfl rfl ?_
    refine twp_ret ?_
    obtain rfl := Option.some.inj hm
    exact EndsS.one _ rfl (.d _) (.refl _)

theorem ref21_path_c {p0 : Table} {p1 : Inter} {p2 : Int} {r : (List Int)} (hm : ref21_path p0 p1 p2 = some r) : RetD Try.prog 28 [p0.enc, p1.enc, .int .i64 p2] (.sl 1 (r.map (D.int .i64))) := by
  refine .of (mv := fun _ => false) (ret_bodyS callB28 Try.func28 rfl Try.ntmps28 rfl rfl (fun wX gX => ?_))
  unfold ref21_path at hm
  refine w_norm [0, 1, 2] rfl rfl ?_
  refine twp_rseq ?_
  refine s_bx 0 rfl rfl rfl ?_
  refine s_bx 1 rfl rfl rfl ?_
  refine s_a tab_ok rfl ?_
  refine tops_nil ?_
  refine w_norm [2, 3, 4] rfl rfl ?_
  refine twp_seq ?_
  refine twp_rseq ?_
  iterate 3 (refine s_a tab_ok rfl ?_)
  obtain ⟨e1, he1, hm⟩ := get_inv hm
  refine s_x rfl rfl (x_ix tab_ok rfl rfl rfl rfl he1) ?_
  iterate 3 (refine s_a tab_ok rfl ?_)
  refine tops_nil ?_
  refine w_norm [2, 3, 4, 13] rfl rfl ?_
  refine twp_cond _ rfl (fun h2 => ?_) (fun h2 => ?_)
  · replace hm := ite_T h2 hm
    refine twp_rseq ?_
    refine s_a tab_ok rfl ?_
    refine tops_nil ?_
    refine c_wk 6 [some 1] rfl ?_
    refine w_norm [6] rfl rfl ?_
    refine twp_ret ?_
    refine way_thenRet ?_
    obtain rfl := Option.some.inj hm
    exact EndsS.one _ rfl (.d _) (.refl _)
  · replace hm := ite_F h2 hm
    refine twp_skip ?_
    refine way_then ?_
    refine w_norm [2, 3, 4] rfl rfl ?_
    refine twp_hole ?_
    refine twp_dseq follows  ?_
    refine d_wr [2] _ (.msl 2 1 0 (([] : List Int)).length) rfl (onE_A rfl) rfl (w_litD [] rfl rfl (tab_ok.sel rfl) zero3 rfl rfl rfl rfl rfl) ?_
    refine d_a [] tab_ok rfl ?_
    refine d_a [0] tab_ok rfl ?_
    refine d_a [] tab_ok rfl ?_
    obtain ⟨e3, he3, hm⟩ := get_inv hm
    refine d_x [] rfl rfl (x_ix tab_ok rfl rfl rfl rfl he3) ?_
    iterate 3 (refine d_a [] tab_ok rfl ?_)
    refine d_a [1] tab_ok rfl ?_
    refine d_a [] tab_ok rfl ?_
    obtain ⟨e4, he4, hm⟩ := get_inv hm
    refine d_x [] rfl rfl (x_ix tab_ok rfl rfl rfl rfl he4) ?_
    iterate 2 (refine d_a [] tab_ok rfl ?_)
    obtain ⟨g5, hm⟩ := guard_inv hm
    refine d_x [] rfl rfl (x_cut tab_ok rfl rfl rfl rfl rfl g5) ?_
    refine d_tail ?_ (by kernel_rfl)
    obtain ⟨g6, hm⟩ := guard_inv hm
    refine s_app (f := (D.int .i64)) (sub e3.sections e4.rel (e3.sections.length : Int)) tab_ok rfl rfl zero3 rfl rfl rfl rfl rfl (fun h => absurd h (Nat.not_lt_zero _)) rfl src_d g6 rfl rfl ?_
    refine s_a tab_ok rfl ?_
    refine tops_nil ?_
    refine w_norm [6] rfl rfl ?_
    refine twp_ret ?_
    obtain rfl := Option.some.inj hm
    exact EndsS.one _ rfl (snap_map rfl) (.refl _)

theorem ref21_Path_c {p0 : Table} {p1 : Inter} {p2 : Int} {r : (List Int)} (hm : ref21_Path p0 p1 p2 = some r) : RetD Try.prog 13 [p0.enc, p1.enc, .int .i64 p2] (.sl 1 (r.map (D.int .i64))) := by
  refine .of (mv := fun _ => false) (ret_bodyS callB13 Try.func13 rfl Try.ntmps13 rfl rfl (fun wX gX => ?_))
  unfold ref21_Path at hm
  refine w_norm [0, 1, 2] rfl rfl ?_
  refine twp_rseq ?_
  refine s_bx 0 rfl rfl rfl ?_
  refine s_bx 1 rfl rfl rfl ?_
  refine s_a tab_ok rfl ?_
  refine tops_nil ?_
  refine w_norm [2, 3, 4] rfl rfl ?_
  refine twp_seq ?_
  refine twp_rseq ?_
  iterate 3 (refine s_a tab_ok rfl ?_)
  obtain ⟨r1, hr1, hm⟩ := bind_inv hm
  refine s_x rfl rfl (rd_callRN rfl rfl (snaps_cons (.d _) (snaps_cons (.d _) (snaps_cons (.d _) snaps_nil))) (ref21_locked_c hr1)) ?_
  refine s_a tab_ok rfl ?_
  refine tops_nil ?_
  refine w_norm [2, 3, 4, 11] rfl rfl ?_
  refine twp_cond _ rfl (fun h2 => ?_) (fun h2 => ?_)
  · replace hm := iteB_T h2 hm
    refine twp_rseq ?_
    refine s_a tab_ok rfl ?_
    refine tops_nil ?_
    refine c_wk 6 [some 1] rfl ?_
    refine w_norm [6] rfl rfl ?_
    refine twp_ret ?_
    refine way_thenRet ?_
    obtain rfl := Option.some.inj hm
    exact EndsS.one _ rfl (.d _) (.refl _)
  · replace hm := iteB_F h2 hm
    refine twp_skip ?_
    refine way_then ?_
    refine w_norm [2, 3, 4] rfl rfl ?_
    refine twp_rseq ?_
    iterate 3 (refine s_a tab_ok rfl ?_)
    obtain ⟨r3, hr3, hm⟩ := bind_inv hm
    refine s_x rfl rfl (rd_callRD rfl rfl rfl (ref21_path_c hr3)) ?_
    refine s_a tab_ok rfl ?_
    refine tops_nil ?_
    refine w_norm [6] rfl rfl ?_
    refine twp_ret ?_
    obtain rfl := Option.some.inj hm
    exact EndsS.one _ rfl (.d _) (.refl _)

theorem ref21_over_c {p0 : Table} {p1 : Inter} {p2 : Int} {r : (List Int)} (hm : ref21_over p0 p1 p2 = some r) : RetD Try.prog 30 [p0.enc, p1.enc, .int .i64 p2] (.sl 1 (r.map (D.int .i64))) := by
  refine .of (mv := fun _ => false) (ret_bodyS callB30 Try.func30 rfl Try.ntmps30 rfl rfl (fun wX gX => ?_))
  unfold ref21_over at hm
  refine w_norm [0, 1, 2] rfl rfl ?_
  refine twp_rseq ?_
  refine s_bx 0 rfl rfl rfl ?_
  refine s_bx 1 rfl rfl rfl ?_
  refine s_a tab_ok rfl ?_
  refine tops_nil ?_
  refine w_norm [2, 3, 4] rfl rfl ?_
  refine twp_seq ?_
  refine twp_rseq ?_
  iterate 3 (refine s_a tab_ok rfl ?_)
  obtain ⟨e1, he1, hm⟩ := get_inv hm
  refine s_x rfl rfl (x_ix tab_ok rfl rfl rfl rfl he1) ?_
  iterate 3 (refine s_a tab_ok rfl ?_)
  refine tops_nil ?_
  refine w_norm [2, 3, 13] rfl rfl ?_
  refine twp_cond _ rfl (fun h2 => ?_) (fun h2 => ?_)
  · replace hm := ite_T h2 hm
    refine twp_rseq ?_
    refine s_a tab_ok rfl ?_
    refine tops_nil ?_
    refine c_wk 6 [some 1] rfl ?_
    refine w_norm [6] rfl rfl ?_
    refine twp_ret ?_
    refine way_thenRet ?_
    obtain rfl := Option.some.inj hm
    exact EndsS.one _ rfl (.d _) (.refl _)
  · replace hm := ite_F h2 hm
    refine twp_skip ?_
    refine way_then ?_
    refine w_norm [2, 3] rfl rfl ?_
    refine twp_rseq ?_
    refine s_litO (f := (D.int .i64)) 2 [] ([] : List Int) tab_ok rfl rfl rfl zero3 rfl rfl rfl rfl rfl ?_
    iterate 3 (refine s_a tab_ok rfl ?_)
    obtain ⟨e3, he3, hm⟩ := get_inv hm
    refine s_x rfl rfl (x_ix tab_ok rfl rfl rfl rfl he3) ?_
    iterate 2 (refine s_a tab_ok rfl ?_)
    obtain ⟨g4, hm⟩ := guard_inv hm
    refine s_app (f := (D.int .i64)) e3.overSections tab_ok rfl rfl zero3 rfl rfl rfl rfl rfl (fun h => absurd h (Nat.not_lt_zero _)) rfl src_d g4 rfl rfl ?_
    refine s_a tab_ok rfl ?_
    refine tops_nil ?_
    refine w_norm [6] rfl rfl ?_
    refine twp_ret ?_
    obtain rfl := Option.some.inj hm
    exact EndsS.one _ rfl (snap_map rfl) (.refl _)

theorem ref21_Over_c {p0 : Table} {p1 : Inter} {p2 : Int} {r : (List Int)} (hm : ref21_Over p0 p1 p2 = some r) : RetD Try.prog 15 [p0.enc, p1.enc, .int .i64 p2] (.sl 1 (r.map (D.int .i64))) := by
  refine .of (mv := fun _ => false) (ret_bodyS callB15 Try.func15 rfl Try.ntmps15 rfl rfl (fun wX gX => ?_))
  unfold ref21_Over at hm
  refine w_norm [0, 1, 2] rfl rfl ?_
  refine twp_rseq ?_
  refine s_bx 0 rfl rfl rfl ?_
  refine s_bx 1 rfl rfl rfl ?_
  refine s_a tab_ok rfl ?_
  refine tops_nil ?_
  refine w_norm [2, 3, 4] rfl rfl ?_
  refine twp_seq ?_
  refine twp_rseq ?_
  iterate 3 (refine s_a tab_ok rfl ?_)
  obtain ⟨r1, hr1, hm⟩ := bind_inv hm
  refine s_x rfl rfl (rd_callRN rfl rfl (snaps_cons (.d _) (snaps_cons (.d _) (snaps_cons (.d _) snaps_nil))) (ref21_locked_c hr1)) ?_
  refine s_a tab_ok rfl ?_
  refine tops_nil ?_
  refine w_norm [2, 3, 4, 11] rfl rfl ?_
  refine twp_cond _ rfl (fun h2 => ?_) (fun h2 => ?_)
  · replace hm := iteB_T h2 hm
    refine twp_rseq ?_
    refine s_a tab_ok rfl ?_
    refine tops_nil ?_
    refine c_wk 6 [some 1] rfl ?_
    refine w_norm [6] rfl rfl ?_
    refine twp_ret ?_
    refine way_thenRet ?_
    obtain rfl := Option.some.inj hm
    exact EndsS.one _ rfl (.d _) (.refl _)
  · replace hm := iteB_F h2 hm
    refine twp_skip ?_
    refine way_then ?_
    refine w_norm [2, 3, 4] rfl rfl ?_
    refine twp_rseq ?_
    iterate 3 (refine s_a tab_ok rfl ?_)
    obtain ⟨r3, hr3, hm⟩ := bind_inv hm
    refine s_x rfl rfl (rd_callRD rfl rfl rfl (ref21_over_c hr3)) ?_
    refine s_a tab_ok rfl ?_
    refine tops_nil ?_
    refine w_norm [6] rfl rfl ?_
    refine twp_ret ?_
    obtain rfl := Option.some.inj hm
    exact EndsS.one _ rfl (.d _) (.refl _)

theorem ref16_less_c {p0 : Setting} {p1 : Setting} {r : Bool} (hm : ref16_less p0 p1 = some r) : RetN Try.prog 65 [p0.enc, p1.enc] (.bool (r)) := by
  refine .unit (ret_bodyS callB65 Try.func65 rfl Try.ntmps65 rfl rfl (fun wX gX => ?_)) rfl
  unfold ref16_less at hm
  refine w_norm [0, 1] rfl rfl ?_
  refine twp_rseq ?_
  refine s_bx 0 rfl rfl rfl ?_
  refine s_bx 1 rfl rfl rfl ?_
  refine s_a tab_ok rfl ?_
  refine tops_nil ?_
  refine w_norm [2, 3] rfl rfl ?_
  refine w_cut [(4, .d (.bool (((decide (p0.el < p1.el)) || ((decide (p0.el = p1.el)) && (decide (p0.pos < p1.pos)))))))] [4] [] rfl ?_ ?_
  · refine twp_region ?_
    iterate 5 (refine s_a tab_ok rfl ?_)
    refine s_b tab_ok rfl (fun q1 hq1 => ?_)
    cases q1
    · iterate 5 (refine s_a tab_ok rfl ?_)
      refine s_b tab_ok rfl (fun q2 hq2 => ?_)
      cases q2
      · iterate 8 (refine s_a tab_ok rfl ?_)
        refine tops_nil ?_
        refine way_then ?_
        exact ⟨[0, 1], rfl, k0, st_eq (fr_cons (av_bool (by simp [hq1, hq2])) rfl) rfl⟩
      · iterate 8 (refine s_a tab_ok rfl ?_)
        refine tops_nil ?_
        refine way_then ?_
        exact ⟨[0, 1], rfl, k0, st_eq (fr_cons (av_bool (by simp [hq1, hq2])) rfl) rfl⟩
    · iterate 14 (refine s_a tab_ok rfl ?_)
      refine tops_nil ?_
      refine way_then ?_
      exact ⟨[0, 1], rfl, k0, st_eq (fr_cons (av_bool (by simp [hq1])) rfl) rfl⟩
  · refine w_norm [4] rfl rfl ?_
    refine twp_ret ?_
    obtain rfl := Option.some.inj hm
    exact EndsS.one _ rfl (.d _) (.refl _)

theorem ref16_Settings_c {p0 : Route} {r : (List Setting)} (hm : ref16_Settings p0 = some r) : RetD Try.prog 45 [p0.enc] (.sl 2 (r.map Setting.enc)) := by
  refine .of (mv := fun _ => false) (ret_bodyS callB45 Try.func45 rfl Try.ntmps45 rfl rfl (fun wX gX => ?_))
  unfold ref16_Settings at hm
  refine w_norm [0] rfl rfl ?_
  refine twp_rseq ?_
  refine s_bx 0 rfl rfl rfl ?_
  refine s_a tab_ok rfl ?_
  refine tops_nil ?_
  refine w_norm [1] rfl rfl ?_
  refine twp_rseq ?_
  refine s_nilO (f := Setting.enc) 1 54 2 rfl rfl rfl ?_
  refine s_nilO (f := Setting.enc) 2 54 2 rfl rfl rfl ?_
  refine tops_nil ?_
  refine w_norm [1, 3, 4] rfl rfl ?_
  refine twp_rseq ?_
  iterate 3 (refine s_a tab_ok rfl ?_)
  obtain ⟨g1, hm⟩ := guard_inv hm
  refine s_app (f := Setting.enc) p0.points tab_ok rfl rfl zero54 rfl rfl rfl rfl rfl (fun h => absurd h (Nat.not_lt_zero _)) rfl src_d g1 rfl rfl ?_
  refine s_a tab_ok rfl ?_
  refine tops_nil ?_
  refine w_norm [1, 3, 4] rfl rfl ?_
  refine twp_rseq ?_
  iterate 3 (refine s_a tab_ok rfl ?_)
  obtain ⟨g2, hm⟩ := guard_inv hm
  refine s_app (f := Setting.enc) p0.overPoints tab_ok rfl rfl zero54 rfl rfl rfl rfl rfl (fun h => absurd h (Nat.not_lt_zero _)) rfl src_d g2 rfl rfl ?_
  refine s_a tab_ok rfl ?_
  refine tops_nil ?_
  refine w_norm [1, 3, 4] rfl rfl ?_
  refine twp_rseq ?_
  iterate 3 (refine s_a tab_ok rfl ?_)
  obtain ⟨g3, hm⟩ := guard_inv hm
  refine s_app (f := Setting.enc) p0.flank tab_ok rfl rfl zero54 rfl rfl rfl rfl rfl (fun h => absurd h (Nat.not_lt_zero _)) rfl src_d g3 rfl rfl ?_
  refine s_a tab_ok rfl ?_
  refine tops_nil ?_
  refine w_norm [3, 4] rfl rfl ?_
  refine twp_block ?_
  refine w_loop hm (fun b5 => ([(3, .msl 0 2 0 (((([] : List Setting) ++ p0.points) ++ p0.overPoints) ++ p0.flank).length), (4, .msl 1 2 0 b5.length)] : Fr)) (fun b5 => ([(1, .flat 54 2 (b5.map Setting.enc))] : List (Nat × Blk))) [3, 4] [] [1, 2] rfl k0 rfl rfl rfl rfl rfl (fun b5 z6 hm hz6 => ?_)
  refine w_norm [3, 4] rfl rfl ?_
  refine twp_block ?_
  refine twp_rseq ?_
  refine s_a tab_ok rfl ?_
  refine tops_nil ?_
  refine w_norm [3, 4, 5] rfl rfl ?_
  refine w_joinM hm (fun found7 => ([(5, .d (.int .i64 found7))] : Fr)) (fun found7 => ([] : List (Nat × Blk))) [5] [3, 4] rfl (fun z8 hm => ?_) (fun found7 hm => ?_)
  · refine twp_rseq ?_
    iterate 3 (refine s_a tab_ok rfl ?_)
    refine tops_nil ?_
    refine w_norm [3, 4, 5, 20, 21, 22] rfl rfl ?_
    refine twp_block ?_
    refine w_loop hm (fun (found11, x12) => ([(5, .d (.int .i64 found11)), (22, .d (.int .i64 x12))] : Fr)) (fun (found11, x12) => ([] : List (Nat × Blk))) [5, 22] [3, 4, 20, 21] [0, 1] rfl k0 rfl rfl rfl rfl rfl (fun s z13 hm hz13 => ?_)
    obtain ⟨found11, x12⟩ := s
    refine w_norm [3, 4, 5, 20, 21, 22] rfl rfl ?_
    refine twp_rseq ?_
    refine s_a tab_ok rfl ?_
    refine tops_nil ?_
    refine w_norm [3, 4, 5, 20, 21, 22, 23] rfl rfl ?_
    refine twp_seq ?_
    refine twp_cond _ rfl (fun h14 => ?_) (fun h14 => ?_)
    · replace hm := ite_T h14 hm
      refine twp_skip ?_
      refine way_then ?_
      refine w_norm [3, 4, 5, 20, 21, 22] rfl rfl ?_
      refine twp_seq ?_
      refine twp_block ?_
      refine twp_rseq ?_
      refine s_a tab_ok rfl ?_
      obtain ⟨e15, he15, hm⟩ := get_inv hm
      refine s_x rfl rfl (x_ixo tab_ok rfl rfl rfl rfl he15 rfl) ?_
      refine s_x rfl rfl (x_ldo tab_ok rfl rfl rfl rfl he15.2 rfl) ?_
      refine s_al 2 rfl rfl zero54 rfl ?_
      iterate 2 (refine s_a tab_ok rfl ?_)
      refine tops_nil ?_
      refine w_norm [3, 4, 5, 6, 7, 20, 21, 22] rfl rfl ?_
      refine w_joinM hm (fun x16 => ([(51, .d (.bool (x16)))] : Fr)) (fun x16 => ([] : List (Nat × Blk))) [51] [3, 4, 5, 6, 20, 21, 22] rfl (fun z17 hm => ?_) (fun x16 hm => ?_)
      · refine twp_draw follows  ?_
        iterate 3 (refine d_a [0, 1, 2] tab_ok rfl ?_)
        refine d_b [0, 1, 2] tab_ok rfl (fun q18 hq18 => ?_)
        cases q18
        · replace hm := ite_F hq18 hm
          iterate 3 (refine d_a [0, 1, 2] tab_ok rfl ?_)
          obtain ⟨g19, hm⟩ := guard_inv hm
          refine d_x [0, 1, 2] rfl rfl (x_ar rfl rfl rfl rfl g19) ?_
          obtain ⟨e20, he20, hm⟩ := get_inv hm
          refine d_x [0, 1, 2] rfl rfl (x_ixo tab_ok rfl rfl rfl rfl he20 rfl) ?_
          refine d_x [0, 1, 2] rfl rfl (x_ldo tab_ok rfl rfl rfl rfl he20.2 rfl) ?_
          refine d_a [0, 1, 2] tab_ok rfl ?_
          obtain ⟨r21, hr21, hm⟩ := bind_inv hm
          refine d_x [0, 1, 2] rfl rfl (rd_callRN rfl rfl (snaps_cons (.d _) (snaps_cons (.d _) snaps_nil)) (ref16_less_c hr21)) ?_
          refine d_a [0, 1, 2] tab_ok rfl ?_
          refine d_b [0, 1, 2] tab_ok rfl (fun q22 hq22 => ?_)
          cases q22
          · replace hm := iteB_F hq22 hm
            iterate 11 (refine d_a [0, 1, 2] tab_ok rfl ?_)
            refine d_tail ?_ (by kernel_rfl)
            refine tops_nil ?_
            refine way_then ?_
            exact ⟨_, [0, 1, 2], (Option.some.inj hm).symm, rfl, k0, rfl⟩
          · replace hm := iteB_T hq22 hm
            iterate 2 (refine d_a [0, 1, 2] tab_ok rfl ?_)
            refine d_b [0, 1, 2] tab_ok rfl (fun q23 hq23 => ?_)
            cases q23
            · replace hm := ite_F hq23 hm
              iterate 3 (refine d_a [0, 1, 2] tab_ok rfl ?_)
              obtain ⟨e24, he24, hm⟩ := get_inv hm
              refine d_x [0, 1, 2] rfl rfl (x_ixo tab_ok rfl rfl rfl rfl he24 rfl) ?_
              refine d_x [0, 1, 2] rfl rfl (x_ldo tab_ok rfl rfl rfl rfl he24.2 rfl) ?_
              obtain ⟨r25, hr25, hm⟩ := bind_inv hm
              refine d_x [0, 1, 2] rfl rfl (rd_callRN rfl rfl (snaps_cons (.d _) (snaps_cons (.d _) snaps_nil)) (ref16_less_c hr25)) ?_
              iterate 2 (refine d_a [0, 1, 2] tab_ok rfl ?_)
              refine d_tail ?_ (by kernel_rfl)
              refine tops_nil ?_
              refine way_then ?_
              exact ⟨_, [0, 1, 2], (Option.some.inj hm).symm, rfl, k0, rfl⟩
            · replace hm := ite_T hq23 hm
              iterate 8 (refine d_a [0, 1, 2] tab_ok rfl ?_)
              refine d_tail ?_ (by kernel_rfl)
              refine tops_nil ?_
              refine way_then ?_
              exact ⟨_, [0, 1, 2], (Option.some.inj hm).symm, rfl, k0, rfl⟩
        · replace hm := ite_T hq18 hm
          iterate 12 (refine d_a [0, 1, 2] tab_ok rfl ?_)
          refine d_b [0, 1, 2] tab_ok rfl (fun q26 hq26 => ?_)
          cases q26
          · replace hm := ite_F hq26 hm
            iterate 3 (refine d_a [0, 1, 2] tab_ok rfl ?_)
            obtain ⟨e27, he27, hm⟩ := get_inv hm
            refine d_x [0, 1, 2] rfl rfl (x_ixo tab_ok rfl rfl rfl rfl he27 rfl) ?_
            refine d_x [0, 1, 2] rfl rfl (x_ldo tab_ok rfl rfl rfl rfl he27.2 rfl) ?_
            obtain ⟨r28, hr28, hm⟩ := bind_inv hm
            refine d_x [0, 1, 2] rfl rfl (rd_callRN rfl rfl (snaps_cons (.d _) (snaps_cons (.d _) snaps_nil)) (ref16_less_c hr28)) ?_
            iterate 2 (refine d_a [0, 1, 2] tab_ok rfl ?_)
            refine d_tail ?_ (by kernel_rfl)
            refine tops_nil ?_
            refine way_then ?_
            exact ⟨_, [0, 1, 2], (Option.some.inj hm).symm, rfl, k0, rfl⟩
          · replace hm := ite_T hq26 hm
            iterate 8 (refine d_a [0, 1, 2] tab_ok rfl ?_)
            refine d_tail ?_ (by kernel_rfl)
            refine tops_nil ?_
            refine way_then ?_
            exact ⟨_, [0, 1, 2], (Option.some.inj hm).symm, rfl, k0, rfl⟩
      · refine w_norm [3, 4, 5, 6, 20, 21, 22, 51] rfl rfl ?_
        refine twp_cond _ rfl (fun h29 => ?_) (fun h29 => ?_)
        · replace hm := iteB_T h29 hm
          refine twp_region ?_
          iterate 2 (refine s_a tab_ok rfl ?_)
          refine tops_nil ?_
          refine way_block ?_
          refine way_then ?_
          refine w_norm [3, 4, 5, 20, 21, 22] rfl rfl ?_
          refine twp_region ?_
          obtain ⟨g30, hm⟩ := guard_inv hm
          refine s_x rfl rfl (x_ar rfl rfl rfl rfl g30) ?_
          refine s_a tab_ok rfl ?_
          refine tops_nil ?_
          refine way_then ?_
          exact ⟨_, [0, 1], (Option.some.inj hm).symm, rfl, k0, rfl⟩
        · replace hm := iteB_F h29 hm
          refine twp_skip ?_
          refine way_block ?_
          refine way_then ?_
          refine w_norm [3, 4, 5, 20, 21, 22] rfl rfl ?_
          refine twp_region ?_
          obtain ⟨g31, hm⟩ := guard_inv hm
          refine s_x rfl rfl (x_ar rfl rfl rfl rfl g31) ?_
          refine s_a tab_ok rfl ?_
          refine tops_nil ?_
          refine way_then ?_
          exact ⟨_, [0, 1], (Option.some.inj hm).symm, rfl, k0, rfl⟩
    · replace hm := ite_F h14 hm
      refine twp_exit ?_
      refine way_thenExit ?_
      obtain ⟨v32, hm, hz⟩ := inr_inv hm
      rw [hz13 _ hz] at hm
      refine way_thenExit ?_
      refine way_here ?_
      refine way_then ?_
      exact ⟨_, [0, 1], (Option.some.inj hm).symm, rfl, k0, rfl⟩
  · refine w_norm [3, 4, 5] rfl rfl ?_
    refine twp_seq ?_
    refine twp_rseq ?_
    iterate 2 (refine s_a tab_ok rfl ?_)
    refine tops_nil ?_
    refine w_norm [3, 4, 5, 55] rfl rfl ?_
    refine twp_cond _ rfl (fun h33 => ?_) (fun h33 => ?_)
    · replace hm := ite_T h33 hm
      refine twp_rseq ?_
      iterate 2 (refine s_a tab_ok rfl ?_)
      refine tops_nil ?_
      refine w_norm [2] rfl rfl ?_
      refine twp_ret ?_
      refine way_thenRet ?_
      refine way_blockRet ?_
      obtain ⟨v34, hm, hz⟩ := inr_inv hm
      rw [hz6 _ hz] at hm
      refine way_thenRet ?_
      refine way_blockRet ?_
      obtain rfl := Option.some.inj hm
      exact EndsS.one _ rfl (snap_map rfl) (.refl _)
    · replace hm := ite_F h33 hm
      refine twp_skip ?_
      refine way_then ?_
      refine w_norm [3, 4, 5] rfl rfl ?_
      refine twp_region ?_
      iterate 3 (refine s_a tab_ok rfl ?_)
      obtain ⟨e35, he35, hm⟩ := get_inv hm
      refine s_x rfl rfl (x_ixo tab_ok rfl rfl rfl rfl he35 rfl) ?_
      refine s_x rfl rfl (x_ldo tab_ok rfl rfl rfl rfl he35.2 rfl) ?_
      refine s_x rfl rfl (x_lit [.tmp 61] tab_ok rfl rfl zero54 rfl rfl rfl rfl rfl) ?_
      obtain ⟨g36, hm⟩ := guard_inv hm
      refine s_app (f := Setting.enc) ([e35] : List Setting) tab_ok rfl rfl zero54 rfl rfl rfl rfl rfl (fun h => absurd h (Nat.not_lt_zero _)) rfl src_d g36 rfl rfl ?_
      refine s_a tab_ok rfl ?_
      refine tops_nil ?_
      refine way_block ?_
      refine way_then ?_
      exact ⟨_, [0, 1], (Option.some.inj hm).symm, rfl, k0, rfl⟩

theorem ref21_has_c {p0 : (List Setting)} {p1 : Setting} {r : Bool} (hm : ref21_has p0 p1 = some r) : RetN Try.prog 51 [.sl 2 (p0.map Setting.enc), p1.enc] (.bool (r)) := by
  refine .unit (ret_bodyS callB51 Try.func51 rfl Try.ntmps51 rfl rfl (fun wX gX => ?_)) rfl
  unfold ref21_has at hm
  refine w_norm [0, 1] rfl rfl ?_
  refine twp_rseq ?_
  refine s_bx 0 rfl rfl rfl ?_
  refine s_a tab_ok rfl ?_
  refine tops_nil ?_
  refine w_norm [0, 3] rfl rfl ?_
  refine w_joinS hm (fun _ => ([] : Fr)) (fun _ => ([] : List (Nat × Blk))) [] [] rfl (fun z1 hm hz1 => ?_) (fun j hm => ?_)
  · refine twp_rseq ?_
    refine s_a tab_ok rfl ?_
    refine tops_nil ?_
    refine w_norm [0, 3, 5] rfl rfl ?_
    refine twp_block ?_
    refine w_loop hm (fun i3 => ([(5, .d (.int .i64 i3))] : Fr)) (fun i3 => ([] : List (Nat × Blk))) [5] [0, 3] [0] rfl k0 rfl rfl rfl rfl rfl (fun i3 z4 hm hz4 => ?_)
    refine w_norm [0, 3, 5] rfl rfl ?_
    refine twp_seq ?_
    refine twp_rseq ?_
    iterate 2 (refine s_a tab_ok rfl ?_)
    refine s_x rfl rfl (x_len tab_ok rfl rfl rfl) ?_
    refine s_a tab_ok rfl ?_
    refine tops_nil ?_
    refine w_norm [0, 3, 5, 9] rfl rfl ?_
    refine twp_cond _ rfl (fun h5 => ?_) (fun h5 => ?_)
    · replace hm := ite_T h5 hm
      refine twp_skip ?_
      refine way_then ?_
      refine w_norm [0, 3, 5] rfl rfl ?_
      refine twp_seq ?_
      refine twp_block ?_
      refine twp_dseq follows  ?_
      iterate 2 (refine d_a [0] tab_ok rfl ?_)
      obtain ⟨e6, he6, hm⟩ := get_inv hm
      refine d_x [0] rfl rfl (x_ix tab_ok rfl rfl rfl rfl he6) ?_
      iterate 2 (refine d_a [0] tab_ok rfl ?_)
      obtain ⟨g7, hm⟩ := guard_inv hm
      refine d_x [0] rfl rfl (Setting_eq rfl rfl rfl g7.1 g7.2) ?_
      refine d_tail ?_ (by kernel_rfl)
      refine tops_nil ?_
      refine w_norm [0, 3, 5, 17] rfl rfl ?_
      refine twp_cond _ rfl (fun h9 => ?_) (fun h9 => ?_)
      · replace hm := ite_T h9 hm
        refine twp_rseq ?_
        refine s_a tab_ok rfl ?_
        refine tops_nil ?_
        refine w_norm [4] rfl rfl ?_
        refine twp_ret ?_
        refine way_blockRet ?_
        refine way_thenRet ?_
        obtain ⟨v10, hm, hz⟩ := inr_inv hm
        rw [hz4 _ hz] at hm
        refine way_thenRet ?_
        refine way_blockRet ?_
        obtain ⟨v11, hm, hz⟩ := inr_inv hm
        rw [hz1 _ hz] at hm
        refine way_thenRet ?_
        obtain rfl := Option.some.inj hm
        exact EndsS.one _ rfl (.d _) (.refl _)
      · replace hm := ite_F h9 hm
        refine twp_skip ?_
        refine way_block ?_
        refine way_then ?_
        refine w_norm [0, 3, 5] rfl rfl ?_
        refine twp_region ?_
        refine s_a tab_ok rfl ?_
        obtain ⟨g12, hm⟩ := guard_inv hm
        refine s_x rfl rfl (x_ar rfl rfl rfl rfl g12) ?_
        refine s_a tab_ok rfl ?_
        refine tops_nil ?_
        refine way_then ?_
        exact ⟨_, [0], (Option.some.inj hm).symm, rfl, k0, rfl⟩
    · replace hm := ite_F h5 hm
      refine twp_exit ?_
      refine way_thenExit ?_
      obtain ⟨v13, hm, hz⟩ := inr_inv hm
      rw [hz4 _ hz] at hm
      refine way_thenExit ?_
      refine way_here ?_
      refine way_then ?_
      exact ⟨_, [0], (Option.some.inj hm).symm, rfl, k0, rfl⟩
  · refine w_norm [] rfl rfl ?_
    refine twp_rseq ?_
    refine s_a tab_ok rfl ?_
    refine tops_nil ?_
    refine w_norm [4] rfl rfl ?_
    refine twp_ret ?_
    obtain rfl := Option.some.inj hm
    exact EndsS.one _ rfl (.d _) (.refl _)

theorem ref02_Has_c {p0 : (List Int)} {p1 : Int} {r : Bool} (hm : ref02_Has p0 p1 = some r) : RetN Try.prog 52 [.sl 1 (p0.map (D.int .i64)), .int .i64 p1] (.bool (r)) := by
  refine .unit (ret_bodyS callB52 Try.func52 rfl Try.ntmps52 rfl rfl (fun wX gX => ?_)) rfl
  unfold ref02_Has at hm
  refine w_norm [0, 1] rfl rfl ?_
  refine twp_rseq ?_
  refine s_a tab_ok rfl ?_
  refine tops_nil ?_
  refine w_norm [0, 1] rfl rfl ?_
  refine w_joinS hm (fun _ => ([] : Fr)) (fun _ => ([] : List (Nat × Blk))) [] [] rfl (fun z1 hm hz1 => ?_) (fun j hm => ?_)
  · refine twp_rseq ?_
    refine s_a tab_ok rfl ?_
    refine tops_nil ?_
    refine w_norm [0, 1, 5] rfl rfl ?_
    refine twp_block ?_
    refine w_loop hm (fun i3 => ([(5, .d (.int .i64 i3))] : Fr)) (fun i3 => ([] : List (Nat × Blk))) [5] [0, 1] [] rfl k0 rfl rfl rfl rfl rfl (fun i3 z4 hm hz4 => ?_)
    refine w_norm [0, 1, 5] rfl rfl ?_
    refine twp_seq ?_
    refine twp_rseq ?_
    iterate 2 (refine s_a tab_ok rfl ?_)
    refine s_x rfl rfl (x_len tab_ok rfl rfl rfl) ?_
    refine s_a tab_ok rfl ?_
    refine tops_nil ?_
    refine w_norm [0, 1, 5, 9] rfl rfl ?_
    refine twp_cond _ rfl (fun h5 => ?_) (fun h5 => ?_)
    · replace hm := ite_T h5 hm
      refine twp_skip ?_
      refine way_then ?_
      refine w_norm [0, 1, 5] rfl rfl ?_
      refine twp_seq ?_
      refine twp_block ?_
      refine twp_rseq ?_
      iterate 2 (refine s_a tab_ok rfl ?_)
      obtain ⟨e6, he6, hm⟩ := get_inv hm
      refine s_x rfl rfl (x_ix tab_ok rfl rfl rfl rfl he6) ?_
      iterate 3 (refine s_a tab_ok rfl ?_)
      refine tops_nil ?_
      refine w_norm [0, 1, 5, 17] rfl rfl ?_
      refine twp_cond _ rfl (fun h7 => ?_) (fun h7 => ?_)
      · replace hm := ite_T h7 hm
        refine twp_rseq ?_
        refine s_a tab_ok rfl ?_
        refine tops_nil ?_
        refine w_norm [4] rfl rfl ?_
        refine twp_ret ?_
        refine way_blockRet ?_
        refine way_thenRet ?_
        obtain ⟨v8, hm, hz⟩ := inr_inv hm
        rw [hz4 _ hz] at hm
        refine way_thenRet ?_
        refine way_blockRet ?_
        obtain ⟨v9, hm, hz⟩ := inr_inv hm
        rw [hz1 _ hz] at hm
        refine way_thenRet ?_
        obtain rfl := Option.some.inj hm
        exact EndsS.one _ rfl (.d _) (.refl _)
      · replace hm := ite_F h7 hm
        refine twp_skip ?_
        refine way_block ?_
        refine way_then ?_
        refine w_norm [0, 1, 5] rfl rfl ?_
        refine twp_region ?_
        refine s_a tab_ok rfl ?_
        obtain ⟨g10, hm⟩ := guard_inv hm
        refine s_x rfl rfl (x_ar rfl rfl rfl rfl g10) ?_
        refine s_a tab_ok rfl ?_
        refine tops_nil ?_
        refine way_then ?_
        exact ⟨_, [], (Option.some.inj hm).symm, rfl, k0, rfl⟩
    · replace hm := ite_F h5 hm
      refine twp_exit ?_
      refine way_thenExit ?_
      obtain ⟨v11, hm, hz⟩ := inr_inv hm
      rw [hz4 _ hz] at hm
      refine way_thenExit ?_
      refine way_here ?_
      refine way_then ?_
      exact ⟨_, [], (Option.some.inj hm).symm, rfl, k0, rfl⟩
  · refine w_norm [] rfl rfl ?_
    refine twp_rseq ?_
    refine s_a tab_ok rfl ?_
    refine tops_nil ?_
    refine w_norm [4] rfl rfl ?_
    refine twp_ret ?_
    obtain rfl := Option.some.inj hm
    exact EndsS.one _ rfl (.d _) (.refl _)

theorem ref21_bound_c {p0 : Table} {p1 : Inter} {p2 : Int} {r : (List Setting)} (hm : ref21_bound p0 p1 p2 = some r) : RetD Try.prog 32 [p0.enc, p1.enc, .int .i64 p2] (.sl 2 (r.map Setting.enc)) := by
  refine .of (mv := fun _ => false) (ret_bodyS callB32 Try.func32 rfl Try.ntmps32 rfl rfl (fun wX gX => ?_))
  unfold ref21_bound at hm
  refine w_norm [0, 1, 2] rfl rfl ?_
  refine twp_rseq ?_
  refine s_bx 0 rfl rfl rfl ?_
  refine s_bx 1 rfl rfl rfl ?_
  refine s_a tab_ok rfl ?_
  refine tops_nil ?_
  refine w_norm [2, 3, 4] rfl rfl ?_
  refine twp_seq ?_
  refine twp_rseq ?_
  iterate 3 (refine s_a tab_ok rfl ?_)
  obtain ⟨e1, he1, hm⟩ := get_inv hm
  refine s_x rfl rfl (x_ix tab_ok rfl rfl rfl rfl he1) ?_
  iterate 3 (refine s_a tab_ok rfl ?_)
  refine tops_nil ?_
  refine w_norm [2, 3, 4, 20] rfl rfl ?_
  refine twp_cond _ rfl (fun h2 => ?_) (fun h2 => ?_)
  · replace hm := ite_T h2 hm
    refine twp_rseq ?_
    refine s_a tab_ok rfl ?_
    refine tops_nil ?_
    refine c_wk 6 [some 2] rfl ?_
    refine w_norm [6] rfl rfl ?_
    refine twp_ret ?_
    refine way_thenRet ?_
    obtain rfl := Option.some.inj hm
    exact EndsS.one _ rfl (.d _) (.refl _)
  · replace hm := ite_F h2 hm
    refine twp_skip ?_
    refine way_then ?_
    refine w_norm [2, 3, 4] rfl rfl ?_
    refine twp_rseq ?_
    iterate 3 (refine s_a tab_ok rfl ?_)
    obtain ⟨e3, he3, hm⟩ := get_inv hm
    refine s_x rfl rfl (x_ix tab_ok rfl rfl rfl rfl he3) ?_
    refine s_a tab_ok rfl ?_
    refine s_al 2 rfl rfl zero48 rfl ?_
    refine s_wkb 2 [none, none, none, some 3, some 2, some 1, none, none, some 3, some 2, some 1, some 2, some 1, some 2] rfl rfl ?_
    refine s_a tab_ok rfl ?_
    refine tops_nil ?_
    refine w_norm [2, 3, 4, 7] rfl rfl ?_
    refine twp_dseq follows  ?_
    iterate 5 (refine d_a [0, 1, 2] tab_ok rfl ?_)
    obtain ⟨e4, he4, hm⟩ := get_inv hm
    refine d_x [0, 1, 2] rfl rfl (x_ix tab_ok rfl rfl rfl rfl he4) ?_
    iterate 2 (refine d_a [0, 1, 2] tab_ok rfl ?_)
    obtain ⟨g5, hm⟩ := guard_inv hm
    refine d_x [0, 1, 2] rfl rfl (x_cut tab_ok rfl rfl rfl rfl rfl g5) ?_
    refine d_tail ?_ (by kernel_rfl)
    refine s_a tab_ok rfl ?_
    refine tops_nil ?_
    refine w_norm [3, 7, 8] rfl rfl ?_
    refine twp_rseq ?_
    refine s_a tab_ok rfl ?_
    obtain ⟨r6, hr6, hm⟩ := bind_inv hm
    refine s_x rfl rfl (rd_callRD rfl rfl rfl (ref16_Settings_c hr6)) ?_
    refine s_a tab_ok rfl ?_
    refine tops_nil ?_
    refine w_norm [3, 7, 8, 9] rfl rfl ?_
    refine twp_rseq ?_
    refine s_nilO (f := Setting.enc) 3 54 2 rfl rfl rfl ?_
    refine tops_nil ?_
    refine w_norm [3, 7, 8, 9, 10] rfl rfl ?_
    refine w_joinM hm (fun b7 => ([(10, .msl 3 2 0 b7.length)] : Fr)) (fun b7 => ([(3, .flat 54 2 (b7.map Setting.enc))] : List (Nat × Blk))) [10] [] rfl (fun z8 hm => ?_) (fun b7 hm => ?_)
    · refine twp_rseq ?_
      refine s_a tab_ok rfl ?_
      refine tops_nil ?_
      refine w_norm [3, 7, 8, 9, 10, 11] rfl rfl ?_
      refine twp_block ?_
      refine w_loop hm (fun (x12, b13) => ([(10, .msl 3 2 0 b13.length), (11, .d (.int .i64 x12))] : Fr)) (fun (x12, b13) => ([(3, .flat 54 2 (b13.map Setting.enc))] : List (Nat × Blk))) [10, 11] [3, 7, 8, 9] [0, 1, 2, 3] rfl k0 rfl rfl rfl rfl rfl (fun s z14 hm hz14 => ?_)
      obtain ⟨x12, b13⟩ := s
      refine w_norm [3, 7, 8, 9, 10, 11] rfl rfl ?_
      refine twp_seq ?_
      refine twp_rseq ?_
      iterate 2 (refine s_a tab_ok rfl ?_)
      refine s_x rfl rfl (x_len tab_ok rfl rfl rfl) ?_
      refine s_a tab_ok rfl ?_
      refine tops_nil ?_
      refine w_norm [3, 7, 8, 9, 10, 11, 40] rfl rfl ?_
      refine twp_cond _ rfl (fun h15 => ?_) (fun h15 => ?_)
      · replace hm := ite_T h15 hm
        refine twp_skip ?_
        refine way_then ?_
        refine w_norm [3, 7, 8, 9, 10, 11] rfl rfl ?_
        refine twp_seq ?_
        refine twp_block ?_
        refine twp_dseq follows  ?_
        iterate 3 (refine d_a [0, 1, 2, 3] tab_ok rfl ?_)
        obtain ⟨e16, he16, hm⟩ := get_inv hm
        refine d_x [0, 1, 2, 3] rfl rfl (x_ix tab_ok rfl rfl rfl rfl he16) ?_
        iterate 2 (refine d_a [0, 1, 2, 3] tab_ok rfl ?_)
        obtain ⟨r17, hr17, hm⟩ := bind_inv hm
        refine d_x [0, 1, 2, 3] rfl rfl (rd_callRN rfl rfl (snaps_cons (.d _) (snaps_cons (.d _) snaps_nil)) (ref16_Index_c hr17)) ?_
        refine d_tail ?_ (by kernel_rfl)
        refine s_a tab_ok rfl ?_
        refine tops_nil ?_
        refine w_norm [3, 7, 8, 9, 10, 11, 12] rfl rfl ?_
        refine w_joinM hm (fun x18 => ([(13, .d (.bool (x18)))] : Fr)) (fun x18 => ([] : List (Nat × Blk))) [13] [3, 7, 8, 9, 10, 11] rfl (fun z19 hm => ?_) (fun x18 hm => ?_)
        · refine twp_draw follows  ?_
          iterate 4 (refine d_a [0, 1, 2, 3] tab_ok rfl ?_)
          obtain ⟨e20, he20, hm⟩ := get_inv hm
          refine d_x [0, 1, 2, 3] rfl rfl (x_ix tab_ok rfl rfl rfl rfl he20) ?_
          refine d_a [0, 1, 2, 3] tab_ok rfl ?_
          obtain ⟨r21, hr21, hm⟩ := bind_inv hm
          refine d_x [0, 1, 2, 3] rfl rfl (rd_callRN rfl rfl (snaps_cons (.d _) (snaps_cons (.d _) snaps_nil)) (ref21_has_c hr21)) ?_
          refine d_b [0, 1, 2, 3] tab_ok rfl (fun q22 hq22 => ?_)
          cases q22
          · replace hm := iteB_F hq22 hm
            iterate 9 (refine d_a [0, 1, 2, 3] tab_ok rfl ?_)
            refine d_tail ?_ (by kernel_rfl)
            refine s_a tab_ok rfl ?_
            refine tops_nil ?_
            refine way_then ?_
            exact ⟨_, [0, 1, 2, 3], (Option.some.inj hm).symm, rfl, k0, rfl⟩
          · replace hm := iteB_T hq22 hm
            iterate 4 (refine d_a [0, 1, 2, 3] tab_ok rfl ?_)
            obtain ⟨e23, he23, hm⟩ := get_inv hm
            refine d_x [0, 1, 2, 3] rfl rfl (x_ix tab_ok rfl rfl rfl rfl he23) ?_
            refine d_a [0, 1, 2, 3] tab_ok rfl ?_
            obtain ⟨r24, hr24, hm⟩ := bind_inv hm
            refine d_x [0, 1, 2, 3] rfl rfl (rd_callRN rfl rfl (snaps_cons (.d _) (snaps_cons (.d _) snaps_nil)) (ref02_Has_c hr24)) ?_
            iterate 2 (refine d_a [0, 1, 2, 3] tab_ok rfl ?_)
            refine d_tail ?_ (by kernel_rfl)
            refine s_a tab_ok rfl ?_
            refine tops_nil ?_
            refine way_then ?_
            exact ⟨_, [0, 1, 2, 3], (Option.some.inj hm).symm, rfl, k0, rfl⟩
        · refine w_norm [3, 7, 8, 9, 10, 11, 13] rfl rfl ?_
          refine w_joinM hm (fun x25 => ([(85, .d (.bool (x25)))] : Fr)) (fun x25 => ([] : List (Nat × Blk))) [85] [3, 7, 8, 9, 10, 11] rfl (fun z26 hm => ?_) (fun x25 hm => ?_)
          · refine twp_draw follows  ?_
            refine d_a [0, 1, 2, 3] tab_ok rfl ?_
            refine d_b [0, 1, 2, 3] tab_ok rfl (fun q27 hq27 => ?_)
            cases q27
            · replace hm := iteB_F hq27 hm
              iterate 4 (refine d_a [0, 1, 2, 3] tab_ok rfl ?_)
              obtain ⟨e28, he28, hm⟩ := get_inv hm
              refine d_x [0, 1, 2, 3] rfl rfl (x_ix tab_ok rfl rfl rfl rfl he28) ?_
              refine d_a [0, 1, 2, 3] tab_ok rfl ?_
              obtain ⟨r29, hr29, hm⟩ := bind_inv hm
              refine d_x [0, 1, 2, 3] rfl rfl (rd_callRN rfl rfl (snaps_cons (.d _) (snaps_cons (.d _) snaps_nil)) (ref21_has_c hr29)) ?_
              refine d_a [0, 1, 2, 3] tab_ok rfl ?_
              refine d_b [0, 1, 2, 3] tab_ok rfl (fun q30 hq30 => ?_)
              cases q30
              · replace hm := iteB_F hq30 hm
                iterate 4 (refine d_a [0, 1, 2, 3] tab_ok rfl ?_)
                obtain ⟨e31, he31, hm⟩ := get_inv hm
                refine d_x [0, 1, 2, 3] rfl rfl (x_ix tab_ok rfl rfl rfl rfl he31) ?_
                refine d_a [0, 1, 2, 3] tab_ok rfl ?_
                obtain ⟨r32, hr32, hm⟩ := bind_inv hm
                refine d_x [0, 1, 2, 3] rfl rfl (rd_callRN rfl rfl (snaps_cons (.d _) (snaps_cons (.d _) snaps_nil)) (ref21_has_c hr32)) ?_
                refine d_a [0, 1, 2, 3] tab_ok rfl ?_
                refine d_tail ?_ (by kernel_rfl)
                refine tops_nil ?_
                refine way_then ?_
                exact ⟨_, [0, 1, 2, 3], (Option.some.inj hm).symm, rfl, k0, rfl⟩
              · replace hm := iteB_T hq30 hm
                iterate 8 (refine d_a [0, 1, 2, 3] tab_ok rfl ?_)
                refine d_tail ?_ (by kernel_rfl)
                refine tops_nil ?_
                refine way_then ?_
                exact ⟨_, [0, 1, 2, 3], (Option.some.inj hm).symm, rfl, k0, rfl⟩
            · replace hm := iteB_T hq27 hm
              iterate 17 (refine d_a [0, 1, 2, 3] tab_ok rfl ?_)
              refine d_tail ?_ (by kernel_rfl)
              refine tops_nil ?_
              refine way_then ?_
              exact ⟨_, [0, 1, 2, 3], (Option.some.inj hm).symm, rfl, k0, rfl⟩
          · refine w_norm [3, 7, 8, 9, 10, 11, 85] rfl rfl ?_
            refine twp_cond _ rfl (fun h33 => ?_) (fun h33 => ?_)
            · replace hm := iteB_T h33 hm
              refine twp_region ?_
              iterate 3 (refine s_a tab_ok rfl ?_)
              obtain ⟨e34, he34, hm⟩ := get_inv hm
              refine s_x rfl rfl (x_ix tab_ok rfl rfl rfl rfl he34) ?_
              refine s_a tab_ok rfl ?_
              refine s_x rfl rfl (x_lit [.tmp 90] tab_ok rfl rfl zero54 rfl rfl rfl rfl rfl) ?_
              obtain ⟨g35, hm⟩ := guard_inv hm
              refine s_app (f := Setting.enc) ([e34] : List Setting) tab_ok rfl rfl zero54 rfl rfl rfl rfl rfl (fun h => absurd h (Nat.not_lt_zero _)) rfl src_d g35 rfl rfl ?_
              refine s_a tab_ok rfl ?_
              refine tops_nil ?_
              refine way_block ?_
              refine way_then ?_
              refine w_norm [3, 7, 8, 9, 10, 11] rfl rfl ?_
              refine twp_region ?_
              refine s_a tab_ok rfl ?_
              obtain ⟨g36, hm⟩ := guard_inv hm
              refine s_x rfl rfl (x_ar rfl rfl rfl rfl g36) ?_
              refine s_a tab_ok rfl ?_
              refine tops_nil ?_
              refine way_then ?_
              exact ⟨_, [0, 1, 2, 3], (Option.some.inj hm).symm, rfl, k0, rfl⟩
            · replace hm := iteB_F h33 hm
              refine twp_skip ?_
              refine way_block ?_
              refine way_then ?_
              refine w_norm [3, 7, 8, 9, 10, 11] rfl rfl ?_
              refine twp_region ?_
              refine s_a tab_ok rfl ?_
              obtain ⟨g37, hm⟩ := guard_inv hm
              refine s_x rfl rfl (x_ar rfl rfl rfl rfl g37) ?_
              refine s_a tab_ok rfl ?_
              refine tops_nil ?_
              refine way_then ?_
              exact ⟨_, [0, 1, 2, 3], (Option.some.inj hm).symm, rfl, k0, rfl⟩
      · replace hm := ite_F h15 hm
        refine twp_exit ?_
        refine way_thenExit ?_
        obtain ⟨v38, hm, hz⟩ := inr_inv hm
        rw [hz14 _ hz] at hm
        refine way_thenExit ?_
        refine way_here ?_
        refine way_then ?_
        exact ⟨_, [0, 1, 2, 3], (Option.some.inj hm).symm, rfl, k0, rfl⟩
    · refine w_norm [10] rfl rfl ?_
      refine twp_rseq ?_
      iterate 2 (refine s_a tab_ok rfl ?_)
      refine tops_nil ?_
      refine w_norm [6] rfl rfl ?_
      refine twp_ret ?_
      obtain rfl := Option.some.inj hm
      exact EndsS.one _ rfl (snap_map rfl) (.refl _)

theorem ref21_Bound_c {p0 : Table} {p1 : Inter} {p2 : Int} {r : (List Setting)} (hm : ref21_Bound p0 p1 p2 = some r) : RetD Try.prog 18 [p0.enc, p1.enc, .int .i64 p2] (.sl 2 (r.map Setting.enc)) := by
  refine .of (mv := fun _ => false) (ret_bodyS callB18 Try.func18 rfl Try.ntmps18 rfl rfl (fun wX gX => ?_))
  unfold ref21_Bound at hm
  refine w_norm [0, 1, 2] rfl rfl ?_
  refine twp_rseq ?_
  refine s_bx 0 rfl rfl rfl ?_
  refine s_bx 1 rfl rfl rfl ?_
  refine s_a tab_ok rfl ?_
  refine tops_nil ?_
  refine w_norm [2, 3, 4] rfl rfl ?_
  refine twp_seq ?_
  refine twp_rseq ?_
  iterate 3 (refine s_a tab_ok rfl ?_)
  obtain ⟨r1, hr1, hm⟩ := bind_inv hm
  refine s_x rfl rfl (rd_callRN rfl rfl (snaps_cons (.d _) (snaps_cons (.d _) (snaps_cons (.d _) snaps_nil))) (ref21_locked_c hr1)) ?_
  refine s_a tab_ok rfl ?_
  refine tops_nil ?_
  refine w_norm [2, 3, 4, 11] rfl rfl ?_
  refine twp_cond _ rfl (fun h2 => ?_) (fun h2 => ?_)
  · replace hm := iteB_T h2 hm
    refine twp_rseq ?_
    refine s_a tab_ok rfl ?_
    refine tops_nil ?_
    refine c_wk 6 [some 2] rfl ?_
    refine w_norm [6] rfl rfl ?_
    refine twp_ret ?_
    refine way_thenRet ?_
    obtain rfl := Option.some.inj hm
    exact EndsS.one _ rfl (.d _) (.refl _)
  · replace hm := iteB_F h2 hm
    refine twp_skip ?_
    refine way_then ?_
    refine w_norm [2, 3, 4] rfl rfl ?_
    refine twp_rseq ?_
    iterate 3 (refine s_a tab_ok rfl ?_)
    obtain ⟨r3, hr3, hm⟩ := bind_inv hm
    refine s_x rfl rfl (rd_callRD rfl rfl rfl (ref21_bound_c hr3)) ?_
    refine s_a tab_ok rfl ?_
    refine tops_nil ?_
    refine w_norm [6] rfl rfl ?_
    refine twp_ret ?_
    obtain rfl := Option.some.inj hm
    exact EndsS.one _ rfl (.d _) (.refl _)

theorem law21_settings_c {p0 : (List Setting)} {p1 : (List Setting)} {r : Bool} (hm : law21_settings p0 p1 = some r) : RetN Try.prog 16 [.sl 2 (p0.map Setting.enc), .sl 2 (p1.map Setting.enc)] (.bool (r)) := by
  refine .unit (ret_bodyS callB16 Try.func16 rfl Try.ntmps16 rfl rfl (fun wX gX => ?_)) rfl
  unfold law21_settings at hm
  refine w_norm [0, 1] rfl rfl ?_
  refine twp_rseq ?_
  refine s_a tab_ok rfl ?_
  refine tops_nil ?_
  refine w_norm [0, 1] rfl rfl ?_
  refine twp_seq ?_
  refine twp_rseq ?_
  refine s_a tab_ok rfl ?_
  refine s_x rfl rfl (x_len tab_ok rfl rfl rfl) ?_
  refine s_a tab_ok rfl ?_
  refine s_x rfl rfl (x_len tab_ok rfl rfl rfl) ?_
  refine s_a tab_ok rfl ?_
  refine tops_nil ?_
  refine w_norm [0, 1, 10] rfl rfl ?_
  refine twp_cond _ rfl (fun h1 => ?_) (fun h1 => ?_)
  · replace hm := iteN_T h1 hm
    refine twp_rseq ?_
    refine s_a tab_ok rfl ?_
    refine tops_nil ?_
    refine w_norm [4] rfl rfl ?_
    refine twp_ret ?_
    refine way_thenRet ?_
    obtain rfl := Option.some.inj hm
    exact EndsS.one _ rfl (.d _) (.refl _)
  · replace hm := iteN_F h1 hm
    refine twp_skip ?_
    refine way_then ?_
    refine w_norm [0, 1] rfl rfl ?_
    refine w_joinS hm (fun _ => ([] : Fr)) (fun _ => ([] : List (Nat × Blk))) [] [] rfl (fun z2 hm hz2 => ?_) (fun j hm => ?_)
    · refine twp_rseq ?_
      refine s_a tab_ok rfl ?_
      refine s_x rfl rfl (x_len tab_ok rfl rfl rfl) ?_
      refine s_a tab_ok rfl ?_
      refine tops_nil ?_
      refine w_norm [0, 1, 12, 13] rfl rfl ?_
      refine twp_block ?_
      refine w_loop hm (fun x4 => ([(13, .d (.int .i64 x4))] : Fr)) (fun x4 => ([] : List (Nat × Blk))) [13] [0, 1, 12] [] rfl k0 rfl rfl rfl rfl rfl (fun x4 z5 hm hz5 => ?_)
      refine w_norm [0, 1, 12, 13] rfl rfl ?_
      refine twp_rseq ?_
      refine s_a tab_ok rfl ?_
      refine tops_nil ?_
      refine w_norm [0, 1, 12, 13, 14] rfl rfl ?_
      refine twp_seq ?_
      refine twp_cond _ rfl (fun h6 => ?_) (fun h6 => ?_)
      · replace hm := ite_T h6 hm
        refine twp_skip ?_
        refine way_then ?_
        refine w_norm [0, 1, 12, 13] rfl rfl ?_
        refine twp_seq ?_
        refine twp_block ?_
        refine twp_rseq ?_
        iterate 2 (refine s_a tab_ok rfl ?_)
        refine tops_nil ?_
        refine w_norm [0, 1, 5, 12, 13] rfl rfl ?_
        refine twp_dseq follows  ?_
        iterate 2 (refine d_a [] tab_ok rfl ?_)
        obtain ⟨e7, he7, hm⟩ := get_inv hm
        refine d_x [] rfl rfl (x_ix tab_ok rfl rfl rfl rfl he7) ?_
        iterate 3 (refine d_a [] tab_ok rfl ?_)
        obtain ⟨e8, he8, hm⟩ := get_inv hm
        refine d_x [] rfl rfl (x_ix tab_ok rfl rfl rfl rfl he8) ?_
        refine d_a [] tab_ok rfl ?_
        obtain ⟨g9, hm⟩ := guard_inv hm
        refine d_x [] rfl rfl (Setting_ne rfl rfl rfl g9.1 g9.2) ?_
        refine d_tail ?_ (by kernel_rfl)
        refine tops_nil ?_
        refine w_norm [0, 1, 12, 13, 24] rfl rfl ?_
        refine twp_cond _ rfl (fun h11 => ?_) (fun h11 => ?_)
        · replace hm := iteN_T h11 hm
          refine twp_rseq ?_
          refine s_a tab_ok rfl ?_
          refine tops_nil ?_
          refine w_norm [4] rfl rfl ?_
          refine twp_ret ?_
          refine way_blockRet ?_
          refine way_thenRet ?_
          obtain ⟨v12, hm, hz⟩ := inr_inv hm
          rw [hz5 _ hz] at hm
          refine way_thenRet ?_
          refine way_blockRet ?_
          obtain ⟨v13, hm, hz⟩ := inr_inv hm
          rw [hz2 _ hz] at hm
          refine way_thenRet ?_
          obtain rfl := Option.some.inj hm
          exact EndsS.one _ rfl (.d _) (.refl _)
        · replace hm := iteN_F h11 hm
          refine twp_skip ?_
          refine way_block ?_
          refine way_then ?_
          refine w_norm [0, 1, 12, 13] rfl rfl ?_
          refine twp_region ?_
          obtain ⟨g14, hm⟩ := guard_inv hm
          refine s_x rfl rfl (x_ar rfl rfl rfl rfl g14) ?_
          refine s_a tab_ok rfl ?_
          refine tops_nil ?_
          refine way_then ?_
          exact ⟨_, [], (Option.some.inj hm).symm, rfl, k0, rfl⟩
      · replace hm := ite_F h6 hm
        refine twp_exit ?_
        refine way_thenExit ?_
        obtain ⟨v15, hm, hz⟩ := inr_inv hm
        rw [hz5 _ hz] at hm
        refine way_thenExit ?_
        refine way_here ?_
        refine way_then ?_
        exact ⟨_, [], (Option.some.inj hm).symm, rfl, k0, rfl⟩
    · refine w_norm [] rfl rfl ?_
      refine twp_rseq ?_
      refine s_a tab_ok rfl ?_
      refine tops_nil ?_
      refine w_norm [4] rfl rfl ?_
      refine twp_ret ?_
      obtain rfl := Option.some.inj hm
      exact EndsS.one _ rfl (.d _) (.refl _)

theorem law21_LocksOf_w {p0 : Table} {p1 : Inter} {p2 : Int} {r : Bool} (hm : law21_LocksOf p0 p1 p2 = some r) : Ret Try.prog 3 [] (fun _ => false) ([p0.enc, p1.enc, .int .i64 p2].map .d) (.d (.bool (r))) [] := by
  refine ret_bodyS callB3 Try.func3 rfl Try.ntmps3 rfl rfl (fun wX gX => ?_)
  unfold law21_LocksOf at hm
  refine w_norm [0, 1, 2] rfl rfl ?_
  refine twp_rseq ?_
  refine s_bx 0 rfl rfl rfl ?_
  refine s_bx 1 rfl rfl rfl ?_
  refine s_a tab_ok rfl ?_
  refine tops_nil ?_
  refine w_norm [2, 3, 4] rfl rfl ?_
  refine twp_seq ?_
  refine twp_rseq ?_
  iterate 2 (refine s_a tab_ok rfl ?_)
  obtain ⟨r1, hr1, hm⟩ := bind_inv hm
  refine s_x rfl rfl (rd_callRN rfl rfl (snaps_cons (.d _) (snaps_cons (.d _) snaps_nil)) (law21_Small_c hr1)) ?_
  refine s_a tab_ok rfl ?_
  refine tops_nil ?_
  refine w_norm [2, 3, 4, 10] rfl rfl ?_
  refine twp_cond _ rfl (fun h2 => ?_) (fun h2 => ?_)
  · replace hm := iteB_T h2 hm
    refine twp_rseq ?_
    obtain ⟨r3, hr3, hm⟩ := bind_inv hm
    refine s_x rfl rfl (rd_callRN rfl rfl snaps_nil (law21_alive_c hr3)) ?_
    refine s_a tab_ok rfl ?_
    refine tops_nil ?_
    refine w_norm [6] rfl rfl ?_
    refine twp_ret ?_
    refine way_thenRet ?_
    obtain rfl := Option.some.inj hm
    exact EndsS.one _ rfl (.d _) (.refl _)
  · replace hm := iteB_F h2 hm
    refine twp_skip ?_
    refine way_then ?_
    refine w_norm [2, 3, 4] rfl rfl ?_
    refine w_joinM hm (fun x4 => ([(6, .d (.bool (x4)))] : Fr)) (fun x4 => ([] : List (Nat × Blk))) [6] [] rfl (fun z5 hm => ?_) (fun x4 hm => ?_)
    · refine twp_draw follows  ?_
      iterate 3 (refine d_a [0, 1] tab_ok rfl ?_)
      obtain ⟨r6, hr6, hm⟩ := bind_inv hm
      refine d_x [0, 1] rfl rfl (rd_callRD rfl rfl rfl (locks_Path_c hr6)) ?_
      iterate 3 (refine d_a [0, 1] tab_ok rfl ?_)
      obtain ⟨r7, hr7, hm⟩ := bind_inv hm
      refine d_x [0, 1] rfl rfl (rd_callRD rfl rfl rfl (ref21_Path_c hr7)) ?_
      obtain ⟨r8, hr8, hm⟩ := bind_inv hm
      refine d_x [0, 1] rfl rfl (rd_callRN rfl rfl (snaps_cons (.d _) (snaps_cons (.d _) snaps_nil)) (law21_ints_c hr8)) ?_
      refine d_b [0, 1] tab_ok rfl (fun q9 hq9 => ?_)
      cases q9
      · replace hm := iteB_F hq9 hm
        iterate 24 (refine d_a [0, 1] tab_ok rfl ?_)
        refine d_tail ?_ (by kernel_rfl)
        refine s_a tab_ok rfl ?_
        refine tops_nil ?_
        refine way_then ?_
        exact ⟨_, [0, 1], (Option.some.inj hm).symm, rfl, k0, rfl⟩
      · replace hm := iteB_T hq9 hm
        iterate 3 (refine d_a [0, 1] tab_ok rfl ?_)
        obtain ⟨r10, hr10, hm⟩ := bind_inv hm
        refine d_x [0, 1] rfl rfl (rd_callRD rfl rfl rfl (locks_Over_c hr10)) ?_
        iterate 3 (refine d_a [0, 1] tab_ok rfl ?_)
        obtain ⟨r11, hr11, hm⟩ := bind_inv hm
        refine d_x [0, 1] rfl rfl (rd_callRD rfl rfl rfl (ref21_Over_c hr11)) ?_
        obtain ⟨r12, hr12, hm⟩ := bind_inv hm
        refine d_x [0, 1] rfl rfl (rd_callRN rfl rfl (snaps_cons (.d _) (snaps_cons (.d _) snaps_nil)) (law21_ints_c hr12)) ?_
        refine d_a [0, 1] tab_ok rfl ?_
        refine d_b [0, 1] tab_ok rfl (fun q13 hq13 => ?_)
        cases q13
        · replace hm := iteB_F hq13 hm
          iterate 13 (refine d_a [0, 1] tab_ok rfl ?_)
          refine d_tail ?_ (by kernel_rfl)
          refine s_a tab_ok rfl ?_
          refine tops_nil ?_
          refine way_then ?_
          exact ⟨_, [0, 1], (Option.some.inj hm).symm, rfl, k0, rfl⟩
        · replace hm := iteB_T hq13 hm
          iterate 3 (refine d_a [0, 1] tab_ok rfl ?_)
          obtain ⟨r14, hr14, hm⟩ := bind_inv hm
          refine d_x [0, 1] rfl rfl (rd_callRD rfl rfl rfl (locks_Bound_c hr14)) ?_
          iterate 3 (refine d_a [0, 1] tab_ok rfl ?_)
          obtain ⟨r15, hr15, hm⟩ := bind_inv hm
          refine d_x [0, 1] rfl rfl (rd_callRD rfl rfl rfl (ref21_Bound_c hr15)) ?_
          obtain ⟨r16, hr16, hm⟩ := bind_inv hm
          refine d_x [0, 1] rfl rfl (rd_callRN rfl rfl (snaps_cons (.d _) (snaps_cons (.d _) snaps_nil)) (law21_settings_c hr16)) ?_
          refine d_a [0, 1] tab_ok rfl ?_
          refine d_b [0, 1] tab_ok rfl (fun q17 hq17 => ?_)
          cases q17
          · replace hm := iteB_F hq17 hm
            iterate 2 (refine d_a [0, 1] tab_ok rfl ?_)
            refine d_tail ?_ (by kernel_rfl)
            refine s_a tab_ok rfl ?_
            refine tops_nil ?_
            refine way_then ?_
            exact ⟨_, [0, 1], (Option.some.inj hm).symm, rfl, k0, rfl⟩
          · replace hm := iteB_T hq17 hm
            obtain ⟨r18, hr18, hm⟩ := bind_inv hm
            refine d_x [0, 1] rfl rfl (rd_callRN rfl rfl snaps_nil (law21_alive_c hr18)) ?_
            refine d_a [0, 1] tab_ok rfl ?_
            refine d_tail ?_ (by kernel_rfl)
            refine s_a tab_ok rfl ?_
            refine tops_nil ?_
            refine way_then ?_
            exact ⟨_, [0, 1], (Option.some.inj hm).symm, rfl, k0, rfl⟩
    · refine w_norm [6] rfl rfl ?_
      refine twp_ret ?_
      obtain rfl := Option.some.inj hm
      exact EndsS.one _ rfl (.d _) (.refl _)

end Go.Proofs.Ytckkkfgjgjoemaa
