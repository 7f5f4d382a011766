/- Texts of this proof, joined, without what it does not use. No condition. -/
import Derived.Test.YtkhdhopgiooloaaQm

set_option maxHeartbeats 8000000
set_option linter.unusedSimpArgs false
set_option linter.unusedVariables false
set_option maxRecDepth 20000
namespace Go.Proofs.Ytkhdhopgiooloaa
open Go Go.TL

theorem progress_view_held_c {p0 : View} {r : RouteState} (hm : progress_view_held p0 = some r) : RetN Try.prog 30 [p0.enc] (r.enc) := by
  refine .unit (ret_bodyS callB30 Try.func30 rfl Try.ntmps30 rfl rfl (fun wX gX => ?_)) rfl
  unfold progress_view_held at hm
  refine w_norm [0] rfl rfl ?_
  refine twp_rseq ?_
  refine s_bx 0 rfl rfl rfl ?_
  refine s_al 1 rfl rfl zero36 rfl ?_
  refine tops_nil ?_
  refine w_norm [1, 2] rfl rfl ?_
  refine twp_rseq ?_
  iterate 4 (refine s_a tab_ok rfl ?_)
  refine tops_nil ?_
  refine w_norm [1, 2, 3] rfl rfl ?_
  refine twp_seq ?_
  refine twp_dseq follows  ?_
  iterate 6 (refine d_a [0, 1] tab_ok rfl ?_)
  obtain ⟨e1, he1, hm⟩ := get_inv hm
  refine d_x [0, 1] rfl rfl (x_ix tab_ok rfl rfl rfl rfl he1) ?_
  refine d_a [0, 1] tab_ok rfl ?_
  obtain ⟨r2, hr2, hm⟩ := bind_inv hm
  refine d_x [0, 1] rfl rfl (rd_callRN rfl rfl (snaps_cons (.d _) (snaps_cons (.d _) snaps_nil)) (progress_Occupied_c hr2)) ?_
  refine d_tail ?_ (by kernel_rfl)
  refine tops_nil ?_
  refine w_norm [1, 2, 3, 16] rfl rfl ?_
  refine twp_cond _ rfl (fun h3 => ?_) (fun h3 => ?_)
  · replace hm := iteB_T h3 hm
    refine twp_rseq ?_
    refine s_a tab_ok rfl ?_
    refine s_x rfl rfl (build_d rfl plc36 zero36 rfl rfl rfl rfl) ?_
    refine s_a tab_ok rfl ?_
    refine tops_nil ?_
    refine w_norm [2] rfl rfl ?_
    refine twp_ret ?_
    refine way_thenRet ?_
    obtain rfl := Option.some.inj hm
    exact EndsS.cellR _ tab_ok rfl rfl rfl rfl rfl (.d _)
  · replace hm := iteB_F h3 hm
    refine twp_skip ?_
    refine way_then ?_
    refine w_norm [1, 2, 3] rfl rfl ?_
    refine twp_rseq ?_
    refine s_a tab_ok rfl ?_
    refine s_x rfl rfl (build_d rfl plc36 zero36 rfl rfl rfl rfl) ?_
    refine s_al 2 rfl rfl zero36 rfl ?_
    refine s_a tab_ok rfl ?_
    refine tops_nil ?_
    refine w_norm [1, 2, 4] rfl rfl ?_
    refine twp_seq ?_
    refine w_cut [(27, .d (.bool (((p0.claimed) || (!(p0.emptied))))))] [27] [1, 2, 4] rfl ?_ ?_
    · refine twp_region ?_
      iterate 2 (refine s_a tab_ok rfl ?_)
      refine s_b tab_ok rfl (fun q4 hq4 => ?_)
      cases q4
      · iterate 4 (refine s_a tab_ok rfl ?_)
        refine tops_nil ?_
        refine way_then ?_
        exact ⟨[0, 1, 2], rfl, k0, st_eq (fr_cons (av_bool (by simp [hq4])) rfl) rfl⟩
      · iterate 4 (refine s_a tab_ok rfl ?_)
        refine tops_nil ?_
        refine way_then ?_
        exact ⟨[0, 1, 2], rfl, k0, st_eq (fr_cons (av_bool (by simp [hq4])) rfl) rfl⟩
    · refine w_norm [1, 2, 4, 27] rfl rfl ?_
      refine twp_cond _ rfl (fun h5 => ?_) (fun h5 => ?_)
      · replace hm := iteB_T h5 hm
        refine twp_rseq ?_
        iterate 2 (refine s_a tab_ok rfl ?_)
        refine tops_nil ?_
        refine w_norm [2] rfl rfl ?_
        refine twp_ret ?_
        refine way_thenRet ?_
        obtain rfl := Option.some.inj hm
        exact EndsS.cellR _ tab_ok rfl rfl rfl rfl rfl (.d _)
      · replace hm := iteB_F h5 hm
        refine twp_skip ?_
        refine way_then ?_
        refine w_norm [1, 2, 4] rfl rfl ?_
        refine twp_seq ?_
        refine twp_rseq ?_
        iterate 3 (refine s_a tab_ok rfl ?_)
        obtain ⟨g6, hm⟩ := guard_inv hm
        refine s_x rfl rfl (x_ar rfl rfl rfl rfl g6) ?_
        iterate 2 (refine s_a tab_ok rfl ?_)
        refine tops_nil ?_
        refine w_norm [2, 4] rfl rfl ?_
        refine twp_rseq ?_
        iterate 3 (refine s_a tab_ok rfl ?_)
        refine tops_nil ?_
        refine w_norm [2, 4, 36] rfl rfl ?_
        refine twp_cond _ rfl (fun h7 => ?_) (fun h7 => ?_)
        · replace hm := ite_T h7 hm
          refine twp_rseq ?_
          refine s_x rfl rfl (build_d rfl plc36 zero36 rfl rfl rfl rfl) ?_
          refine s_a tab_ok rfl ?_
          refine tops_nil ?_
          refine w_norm [2] rfl rfl ?_
          refine twp_ret ?_
          refine way_thenRet ?_
          obtain rfl := Option.some.inj hm
          exact EndsS.cellR _ tab_ok rfl rfl rfl rfl rfl (.d _)
        · replace hm := ite_F h7 hm
          refine twp_skip ?_
          refine way_then ?_
          refine w_norm [2, 4] rfl rfl ?_
          refine twp_rseq ?_
          iterate 2 (refine s_a tab_ok rfl ?_)
          refine tops_nil ?_
          refine w_norm [2] rfl rfl ?_
          refine twp_ret ?_
          obtain rfl := Option.some.inj hm
          exact EndsS.cellR _ tab_ok rfl rfl rfl rfl rfl (.d _)

theorem progress_Next_c {p0 : Table} {p1 : Inter} {p2 : Inputs} {p3 : Int} {r : RouteState} (hm : progress_Next p0 p1 p2 p3 = some r) : RetN Try.prog 11 [p0.enc, p1.enc, p2.enc, .int .i64 p3] (r.enc) := by
  refine .unit (ret_bodyS callB11 Try.func11 rfl Try.ntmps11 rfl rfl (fun wX gX => ?_)) rfl
  unfold progress_Next at hm
  refine w_norm [0, 1, 2, 3] rfl rfl ?_
  refine twp_rseq ?_
  refine s_bx 0 rfl rfl rfl ?_
  refine s_bx 1 rfl rfl rfl ?_
  refine s_bx 2 rfl rfl rfl ?_
  refine s_al 3 rfl rfl zero36 rfl ?_
  refine tops_nil ?_
  refine w_norm [3, 4, 5, 6, 8] rfl rfl ?_
  refine twp_seq ?_
  refine w_joinM hm (fun x1 => ([(24, .d (.bool (x1)))] : Fr)) (fun x1 => ([] : List (Nat × Blk))) [24] [3, 4, 5, 6, 8] rfl (fun z2 hm => ?_) (fun x1 hm => ?_)
  · refine twp_region ?_
    iterate 2 (refine s_a tab_ok rfl ?_)
    refine s_b tab_ok rfl (fun q3 hq3 => ?_)
    cases q3
    · replace hm := ite_F hq3 hm
      iterate 3 (refine s_a tab_ok rfl ?_)
      refine s_x rfl rfl (x_len tab_ok rfl rfl rfl) ?_
      iterate 2 (refine s_a tab_ok rfl ?_)
      refine s_b tab_ok rfl (fun q4 hq4 => ?_)
      cases q4
      · replace hm := ite_F hq4 hm
        iterate 2 (refine s_a tab_ok rfl ?_)
        obtain ⟨r5, hr5, hm⟩ := bind_inv hm
        refine s_x rfl rfl (rd_callRN rfl rfl (snaps_cons (.d _) (snaps_cons (.d _) snaps_nil)) (progress_fits_c hr5)) ?_
        iterate 2 (refine s_a tab_ok rfl ?_)
        refine tops_nil ?_
        refine way_then ?_
        exact ⟨_, [0, 1, 2, 3], (Option.some.inj hm).symm, rfl, k0, rfl⟩
      · replace hm := ite_T hq4 hm
        iterate 5 (refine s_a tab_ok rfl ?_)
        refine tops_nil ?_
        refine way_then ?_
        exact ⟨_, [0, 1, 2, 3], (Option.some.inj hm).symm, rfl, k0, rfl⟩
    · replace hm := ite_T hq3 hm
      iterate 12 (refine s_a tab_ok rfl ?_)
      refine tops_nil ?_
      refine way_then ?_
      exact ⟨_, [0, 1, 2, 3], (Option.some.inj hm).symm, rfl, k0, rfl⟩
  · refine w_norm [3, 4, 5, 6, 8, 24] rfl rfl ?_
    refine twp_cond _ rfl (fun h6 => ?_) (fun h6 => ?_)
    · replace hm := iteB_T h6 hm
      refine twp_rseq ?_
      refine s_x rfl rfl (build_d rfl plc36 zero36 rfl rfl rfl rfl) ?_
      refine s_a tab_ok rfl ?_
      refine tops_nil ?_
      refine w_norm [8] rfl rfl ?_
      refine twp_ret ?_
      refine way_thenRet ?_
      obtain rfl := Option.some.inj hm
      exact EndsS.cellR _ tab_ok rfl rfl rfl rfl rfl (.d _)
    · replace hm := iteB_F h6 hm
      refine twp_skip ?_
      refine way_then ?_
      refine w_norm [3, 4, 5, 6, 8] rfl rfl ?_
      refine twp_hole ?_
      refine w_joinM hm (fun (c7, c8, c9, c10, c11, c12, c13, c14, c15, c16, c17, c18, c19, c20, c21, c22, c23, c24, c25, c26, c27) => ([(9, .mptr 4 0 0 0)] : Fr)) (fun (c7, c8, c9, c10, c11, c12, c13, c14, c15, c16, c17, c18, c19, c20, c21, c22, c23, c24, c25, c26, c27) => ([(4, .box 55 [.d (.sl 14 (p0.routes.map Route.enc)), .d (.sl 1 (p0.points.map (D.int .i64))), .d (.sl 1 (p0.homes.map (D.int .i64))), .d (.int .i64 p0.sections), .d (.int .i64 p0.signals), .d (.sl 1 (p2.occupied.map D.bool)), .d (.sl 1 (p2.detected.map (D.int .i64))), .d (.sl 1 (p2.closed.map D.bool)), .d (.sl 1 (p2.claimed.map D.bool)), .d (.sl 1 (p2.passed.map D.bool)), .d (.sl 1 (p2.calls.map (D.int .i64))), .d (.sl 1 (p2.cancels.map (D.int .i64))), .d (.str c7), .d (.int .i64 c8), .d (.int .i64 c9), .d (.sl 3 (c10.map Step.enc)), .d (.sl 2 (c11.map Setting.enc)), .d (.sl 1 (c12.map (D.int .i64))), .d (.int .i64 c13), .d (.int .i64 c14), .d (.sl 3 (c15.map Step.enc)), .d (.sl 2 (c16.map Setting.enc)), .d (.sl 1 (c17.map (D.int .i64))), .d (.sl 2 (c18.map Setting.enc)), .d (.sl 1 (c19.map (D.int .i64))), .d (.sl 2 (c20.map End.enc)), .d (.int .i64 c21), .d (.int .i64 c22), .d (.int .i64 c23), .d (.bool (c24)), .d (.bool (c25)), .d (.bool (c26)), .d (.bool (c27))])] : List (Nat × Blk))) [9] [4, 6, 8] rfl (fun z28 hm => ?_) (fun j hm => ?_)
      · refine twp_hole ?_
        refine twp_draw follows  ?_
        refine d_a [0] tab_ok rfl ?_
        refine d_a [2] tab_ok rfl ?_
        refine d_a [] tab_ok rfl ?_
        refine d_a [0] tab_ok rfl ?_
        refine d_a [] tab_ok rfl ?_
        obtain ⟨e29, he29, hm⟩ := get_inv hm
        refine d_x [] rfl rfl (x_ix tab_ok rfl rfl rfl rfl he29) ?_
        iterate 2 (refine d_a [] tab_ok rfl ?_)
        refine d_a [1] tab_ok rfl ?_
        refine d_a [] tab_ok rfl ?_
        obtain ⟨e30, he30, hm⟩ := get_inv hm
        refine d_x [] rfl rfl (x_ix tab_ok rfl rfl rfl rfl he30) ?_
        iterate 3 (refine d_a [] tab_ok rfl ?_)
        refine d_a [2] tab_ok rfl ?_
        refine d_x [] rfl rfl (x_len tab_ok rfl rfl rfl) ?_
        refine d_a [] tab_ok rfl ?_
        refine d_b [] tab_ok rfl (fun q31 hq31 => ?_)
        cases q31
        · replace hm := ite_F hq31 hm
          refine d_a [] tab_ok rfl ?_
          refine d_a [2] tab_ok rfl ?_
          refine d_a [] tab_ok rfl ?_
          obtain ⟨e32, he32, hm⟩ := get_inv hm
          refine d_x [] rfl rfl (x_ix tab_ok rfl rfl rfl rfl he32) ?_
          iterate 4 (refine d_a [] tab_ok rfl ?_)
          refine d_a [2] tab_ok rfl ?_
          refine d_x [] rfl rfl (x_len tab_ok rfl rfl rfl) ?_
          refine d_a [] tab_ok rfl ?_
          refine d_b [] tab_ok rfl (fun q33 hq33 => ?_)
          cases q33
          · replace hm := ite_F hq33 hm
            iterate 7 (refine d_a [] tab_ok rfl ?_)
            refine d_a [2] tab_ok rfl ?_
            refine d_a [] tab_ok rfl ?_
            obtain ⟨r34, hr34, hm⟩ := bind_inv hm
            refine d_x [] rfl rfl (rd_callRN rfl rfl (snaps_cons (.d _) (snaps_cons (.d _) snaps_nil)) (slices_Contains_int_c hr34)) ?_
            refine d_a [0] tab_ok rfl ?_
            refine d_a [1] tab_ok rfl ?_
            refine d_a [2] tab_ok rfl ?_
            refine d_a [] tab_ok rfl ?_
            obtain ⟨r35, hr35, hm⟩ := bind_inv hm
            refine d_x [] rfl rfl (rd_callRN rfl rfl (snaps_cons (.d _) (snaps_cons (.d _) (snaps_cons (.d _) (snaps_cons (.d _) snaps_nil)))) (progress_Emptied_c hr35)) ?_
            refine d_x [] rfl rfl (build_d rfl plc55 zero55 rfl rfl rfl rfl) ?_
            refine d_wr [5] _ (.mptr 5 0 0 0) rfl (onE_A rfl) rfl (w_alloc rfl rfl zero55 rfl rfl) ?_
            refine d_tail ?_ (by kernel_rfl)
            refine s_a tab_ok rfl ?_
            refine tops_nil ?_
            refine way_then ?_
            exact ⟨_, [0, 1, 2, 3, 5], (Option.some.inj hm).symm, rfl, k0, rfl⟩
          · replace hm := ite_T hq33 hm
            refine d_a [] tab_ok rfl ?_
            refine d_a [2] tab_ok rfl ?_
            refine d_a [] tab_ok rfl ?_
            obtain ⟨e36, he36, hm⟩ := get_inv hm
            refine d_x [] rfl rfl (x_ix tab_ok rfl rfl rfl rfl he36) ?_
            iterate 3 (refine d_a [] tab_ok rfl ?_)
            refine d_a [2] tab_ok rfl ?_
            refine d_a [] tab_ok rfl ?_
            obtain ⟨r37, hr37, hm⟩ := bind_inv hm
            refine d_x [] rfl rfl (rd_callRN rfl rfl (snaps_cons (.d _) (snaps_cons (.d _) snaps_nil)) (slices_Contains_int_c hr37)) ?_
            refine d_a [0] tab_ok rfl ?_
            refine d_a [1] tab_ok rfl ?_
            refine d_a [2] tab_ok rfl ?_
            refine d_a [] tab_ok rfl ?_
            obtain ⟨r38, hr38, hm⟩ := bind_inv hm
            refine d_x [] rfl rfl (rd_callRN rfl rfl (snaps_cons (.d _) (snaps_cons (.d _) (snaps_cons (.d _) (snaps_cons (.d _) snaps_nil)))) (progress_Emptied_c hr38)) ?_
            refine d_x [] rfl rfl (build_d rfl plc55 zero55 rfl rfl rfl rfl) ?_
            refine d_wr [5] _ (.mptr 5 0 0 0) rfl (onE_A rfl) rfl (w_alloc rfl rfl zero55 rfl rfl) ?_
            refine d_tail ?_ (by kernel_rfl)
            refine s_a tab_ok rfl ?_
            refine tops_nil ?_
            refine way_then ?_
            exact ⟨_, [0, 1, 2, 3, 5], (Option.some.inj hm).symm, rfl, k0, rfl⟩
        · replace hm := ite_T hq31 hm
          iterate 8 (refine d_a [] tab_ok rfl ?_)
          refine d_a [2] tab_ok rfl ?_
          refine d_x [] rfl rfl (x_len tab_ok rfl rfl rfl) ?_
          refine d_a [] tab_ok rfl ?_
          refine d_b [] tab_ok rfl (fun q39 hq39 => ?_)
          cases q39
          · replace hm := ite_F hq39 hm
            iterate 7 (refine d_a [] tab_ok rfl ?_)
            refine d_a [2] tab_ok rfl ?_
            refine d_a [] tab_ok rfl ?_
            obtain ⟨r40, hr40, hm⟩ := bind_inv hm
            refine d_x [] rfl rfl (rd_callRN rfl rfl (snaps_cons (.d _) (snaps_cons (.d _) snaps_nil)) (slices_Contains_int_c hr40)) ?_
            refine d_a [0] tab_ok rfl ?_
            refine d_a [1] tab_ok rfl ?_
            refine d_a [2] tab_ok rfl ?_
            refine d_a [] tab_ok rfl ?_
            obtain ⟨r41, hr41, hm⟩ := bind_inv hm
            refine d_x [] rfl rfl (rd_callRN rfl rfl (snaps_cons (.d _) (snaps_cons (.d _) (snaps_cons (.d _) (snaps_cons (.d _) snaps_nil)))) (progress_Emptied_c hr41)) ?_
            refine d_x [] rfl rfl (build_d rfl plc55 zero55 rfl rfl rfl rfl) ?_
            refine d_wr [5] _ (.mptr 5 0 0 0) rfl (onE_A rfl) rfl (w_alloc rfl rfl zero55 rfl rfl) ?_
            refine d_tail ?_ (by kernel_rfl)
            refine s_a tab_ok rfl ?_
            refine tops_nil ?_
            refine way_then ?_
            exact ⟨_, [0, 1, 2, 3, 5], (Option.some.inj hm).symm, rfl, k0, rfl⟩
          · replace hm := ite_T hq39 hm
            refine d_a [] tab_ok rfl ?_
            refine d_a [2] tab_ok rfl ?_
            refine d_a [] tab_ok rfl ?_
            obtain ⟨e42, he42, hm⟩ := get_inv hm
            refine d_x [] rfl rfl (x_ix tab_ok rfl rfl rfl rfl he42) ?_
            iterate 3 (refine d_a [] tab_ok rfl ?_)
            refine d_a [2] tab_ok rfl ?_
            refine d_a [] tab_ok rfl ?_
            obtain ⟨r43, hr43, hm⟩ := bind_inv hm
            refine d_x [] rfl rfl (rd_callRN rfl rfl (snaps_cons (.d _) (snaps_cons (.d _) snaps_nil)) (slices_Contains_int_c hr43)) ?_
            refine d_a [0] tab_ok rfl ?_
            refine d_a [1] tab_ok rfl ?_
            refine d_a [2] tab_ok rfl ?_
            refine d_a [] tab_ok rfl ?_
            obtain ⟨r44, hr44, hm⟩ := bind_inv hm
            refine d_x [] rfl rfl (rd_callRN rfl rfl (snaps_cons (.d _) (snaps_cons (.d _) (snaps_cons (.d _) (snaps_cons (.d _) snaps_nil)))) (progress_Emptied_c hr44)) ?_
            refine d_x [] rfl rfl (build_d rfl plc55 zero55 rfl rfl rfl rfl) ?_
            refine d_wr [5] _ (.mptr 5 0 0 0) rfl (onE_A rfl) rfl (w_alloc rfl rfl zero55 rfl rfl) ?_
            refine d_tail ?_ (by kernel_rfl)
            refine s_a tab_ok rfl ?_
            refine tops_nil ?_
            refine way_then ?_
            exact ⟨_, [0, 1, 2, 3, 5], (Option.some.inj hm).symm, rfl, k0, rfl⟩
      · obtain ⟨c7, c8, c9, c10, c11, c12, c13, c14, c15, c16, c17, c18, c19, c20, c21, c22, c23, c24, c25, c26, c27⟩ := j
        refine w_norm [4, 6, 8, 9] rfl rfl ?_
        refine twp_seq ?_
        refine twp_rseq ?_
        iterate 3 (refine s_a tab_ok rfl ?_)
        refine tops_nil ?_
        refine w_norm [4, 6, 8, 9, 74] rfl rfl ?_
        refine twp_block ?_
        refine twp_seq ?_
        refine twp_block ?_
        refine twp_seq ?_
        refine twp_block ?_
        refine w_joinS hm (fun _ => ([] : Fr)) (fun _ => ([] : List (Nat × Blk))) [] [8, 9] rfl (fun z45 hm hz45 => ?_) (fun j hm => ?_)
        · refine twp_block ?_
          refine twp_seq ?_
          refine twp_block ?_
          refine twp_seq ?_
          refine twp_seq ?_
          refine twp_rseq ?_
          iterate 2 (refine s_a tab_ok rfl ?_)
          refine tops_nil ?_
          refine w_norm [4, 6, 8, 9, 74, 75] rfl rfl ?_
          refine twp_cond _ rfl (fun h46 => ?_) (fun h46 => ?_)
          · replace hm := ite_T h46 hm
            refine twp_exit ?_
            refine way_thenExit ?_
            refine way_thenExit ?_
            refine way_here ?_
            refine way_then ?_
            refine w_norm [4, 6, 8, 9] rfl rfl ?_
            refine twp_seq ?_
            refine twp_rseq ?_
            iterate 2 (refine s_a tab_ok rfl ?_)
            refine tops_nil ?_
            refine w_norm [4, 6, 8, 9, 84] rfl rfl ?_
            refine twp_cond _ rfl (fun h47 => ?_) (fun h47 => ?_)
            · replace hm := iteB_T h47 hm
              refine twp_rseq ?_
              refine s_x rfl rfl (build_d rfl plc36 zero36 rfl rfl rfl rfl) ?_
              refine s_a tab_ok rfl ?_
              refine tops_nil ?_
              refine w_norm [8] rfl rfl ?_
              refine twp_ret ?_
              refine way_thenRet ?_
              refine way_blockRet ?_
              obtain ⟨v48, hm, hz⟩ := inr_inv hm
              rw [hz45 _ hz] at hm
              refine way_thenRet ?_
              refine way_blockRet ?_
              refine way_thenRet ?_
              refine way_blockRet ?_
              refine way_thenRet ?_
              refine way_blockRet ?_
              refine way_thenRet ?_
              obtain rfl := Option.some.inj hm
              exact EndsS.cellR _ tab_ok rfl rfl rfl rfl rfl (.d _)
            · replace hm := iteB_F h47 hm
              refine twp_skip ?_
              refine way_then ?_
              refine w_norm [4, 6, 8, 9] rfl rfl ?_
              refine twp_rseq ?_
              iterate 4 (refine s_a tab_ok rfl ?_)
              obtain ⟨r49, hr49, hm⟩ := bind_inv hm
              refine s_x rfl rfl (rd_callRN rfl rfl (snaps_cons (.d _) (snaps_cons (.d _) (snaps_cons (.d _) snaps_nil))) (progress_proved_c hr49)) ?_
              refine s_a tab_ok rfl ?_
              refine tops_nil ?_
              refine w_norm [8, 9, 91] rfl rfl ?_
              refine twp_cond _ rfl (fun h50 => ?_) (fun h50 => ?_)
              · replace hm := iteB_T h50 hm
                refine twp_rseq ?_
                iterate 3 (refine s_a tab_ok rfl ?_)
                refine tops_nil ?_
                refine w_norm [8] rfl rfl ?_
                refine twp_ret ?_
                refine way_blockRet ?_
                obtain ⟨v51, hm, hz⟩ := inr_inv hm
                rw [hz45 _ hz] at hm
                refine way_thenRet ?_
                refine way_blockRet ?_
                refine way_thenRet ?_
                refine way_blockRet ?_
                refine way_thenRet ?_
                refine way_blockRet ?_
                refine way_thenRet ?_
                obtain rfl := Option.some.inj hm
                exact EndsS.cellR _ tab_ok rfl rfl rfl rfl rfl (.d _)
              · replace hm := iteB_F h50 hm
                refine twp_skip ?_
                refine way_block ?_
                refine way_then ?_
                exact ⟨_, [0, 1, 2, 3, 4], (Option.some.inj hm).symm, rfl, k0, rfl⟩
          · replace hm := ite_F h46 hm
            refine twp_skip ?_
            refine way_then ?_
            refine w_norm [8, 9, 74] rfl rfl ?_
            refine twp_seq ?_
            refine twp_rseq ?_
            iterate 2 (refine s_a tab_ok rfl ?_)
            refine tops_nil ?_
            refine w_norm [8, 9, 74, 77] rfl rfl ?_
            refine twp_cond _ rfl (fun h52 => ?_) (fun h52 => ?_)
            · replace hm := ite_T h52 hm
              refine twp_exit ?_
              refine way_thenExit ?_
              refine way_thenExit ?_
              refine way_past rfl ?_
              refine way_thenExit ?_
              refine way_here ?_
              refine way_then ?_
              exact ⟨_, [0, 1, 2, 3, 4], (Option.some.inj hm).symm, rfl, k0, rfl⟩
            · replace hm := ite_F h52 hm
              refine twp_skip ?_
              refine way_then ?_
              refine w_norm [8, 9, 74] rfl rfl ?_
              refine twp_seq ?_
              refine twp_rseq ?_
              iterate 2 (refine s_a tab_ok rfl ?_)
              refine tops_nil ?_
              refine w_norm [8, 9, 74, 79] rfl rfl ?_
              refine twp_cond _ rfl (fun h53 => ?_) (fun h53 => ?_)
              · replace hm := ite_T h53 hm
                refine twp_exit ?_
                refine way_thenExit ?_
                refine way_thenExit ?_
                refine way_past rfl ?_
                refine way_thenExit ?_
                refine way_past rfl ?_
                obtain ⟨v54, hm, hz⟩ := inr_inv hm
                rw [hz45 _ hz] at hm
                refine way_thenExit ?_
                refine way_here ?_
                refine way_then ?_
                refine w_norm [8, 9] rfl rfl ?_
                refine twp_seq ?_
                refine twp_rseq ?_
                refine s_a tab_ok rfl ?_
                obtain ⟨r55, hr55, hm⟩ := bind_inv hm
                refine s_x rfl rfl (rd_callRN rfl rfl (snaps_cons (.d _) snaps_nil) (progress_view_used_c hr55)) ?_
                refine s_a tab_ok rfl ?_
                refine tops_nil ?_
                refine w_norm [8] rfl rfl ?_
                refine twp_ret ?_
                refine way_thenRet ?_
                refine way_blockRet ?_
                refine way_thenRet ?_
                refine way_blockRet ?_
                refine way_thenRet ?_
                obtain rfl := Option.some.inj hm
                exact EndsS.cellR _ tab_ok rfl rfl rfl rfl rfl (.d _)
              · replace hm := ite_F h53 hm
                refine twp_skip ?_
                refine way_then ?_
                refine w_norm [8, 9, 74] rfl rfl ?_
                refine twp_rseq ?_
                iterate 2 (refine s_a tab_ok rfl ?_)
                refine tops_nil ?_
                refine w_norm [8, 9, 81] rfl rfl ?_
                refine twp_cond _ rfl (fun h56 => ?_) (fun h56 => ?_)
                · replace hm := ite_T h56 hm
                  refine twp_exit ?_
                  refine way_thenExit ?_
                  refine way_past rfl ?_
                  refine way_thenExit ?_
                  refine way_past rfl ?_
                  obtain ⟨v57, hm, hz⟩ := inr_inv hm
                  rw [hz45 _ hz] at hm
                  refine way_thenExit ?_
                  refine way_past rfl ?_
                  refine way_thenExit ?_
                  refine way_here ?_
                  refine way_then ?_
                  refine w_norm [8, 9] rfl rfl ?_
                  refine twp_seq ?_
                  refine twp_rseq ?_
                  refine s_a tab_ok rfl ?_
                  obtain ⟨r58, hr58, hm⟩ := bind_inv hm
                  refine s_x rfl rfl (rd_callRN rfl rfl (snaps_cons (.d _) snaps_nil) (progress_view_held_c hr58)) ?_
                  refine s_a tab_ok rfl ?_
                  refine tops_nil ?_
                  refine w_norm [8] rfl rfl ?_
                  refine twp_ret ?_
                  refine way_thenRet ?_
                  refine way_blockRet ?_
                  refine way_thenRet ?_
                  obtain rfl := Option.some.inj hm
                  exact EndsS.cellR _ tab_ok rfl rfl rfl rfl rfl (.d _)
                · replace hm := ite_F h56 hm
                  refine twp_skip ?_
                  refine way_then ?_
                  refine w_norm [8] rfl rfl ?_
                  refine twp_exit ?_
                  refine way_past rfl ?_
                  refine way_thenExit ?_
                  refine way_past rfl ?_
                  obtain ⟨v59, hm, hz⟩ := inr_inv hm
                  rw [hz45 _ hz] at hm
                  refine way_thenExit ?_
                  refine way_past rfl ?_
                  refine way_thenExit ?_
                  refine way_past rfl ?_
                  refine way_thenExit ?_
                  refine way_here ?_
                  refine way_then ?_
                  refine w_norm [8] rfl rfl ?_
                  refine twp_rseq ?_
                  refine s_x rfl rfl (build_d rfl plc36 zero36 rfl rfl rfl rfl) ?_
                  refine s_a tab_ok rfl ?_
                  refine tops_nil ?_
                  refine w_norm [8] rfl rfl ?_
                  refine twp_ret ?_
                  obtain rfl := Option.some.inj hm
                  exact EndsS.cellR _ tab_ok rfl rfl rfl rfl rfl (.d _)
        · refine w_norm [8, 9] rfl rfl ?_
          refine twp_seq ?_
          refine twp_rseq ?_
          refine s_a tab_ok rfl ?_
          obtain ⟨r60, hr60, hm⟩ := bind_inv hm
          refine s_x rfl rfl (rd_callRN rfl rfl (snaps_cons (.d _) snaps_nil) (progress_view_clear_c hr60)) ?_
          refine s_a tab_ok rfl ?_
          refine tops_nil ?_
          refine w_norm [8] rfl rfl ?_
          refine twp_ret ?_
          refine way_thenRet ?_
          refine way_blockRet ?_
          refine way_thenRet ?_
          refine way_blockRet ?_
          refine way_thenRet ?_
          refine way_blockRet ?_
          refine way_thenRet ?_
          obtain rfl := Option.some.inj hm
          exact EndsS.cellR _ tab_ok rfl rfl rfl rfl rfl (.d _)

theorem law22_alive_c1_c {p0 : RouteState} {p1 : Bool} {p2 : (List Bool)} {p3 : Table} {r : RouteState} (hm : law22_alive_c1 p0 p1 p2 p3 = some r) : RetN Try.prog 24 [p0.enc, .bool (p1), .sl 1 (p2.map D.bool), .ptr (p3.enc) 0] (r.enc) := by
  refine .unit (ret_bodyS callB24 Try.func24 rfl Try.ntmps24 rfl rfl (fun wX gX => ?_)) rfl
  unfold law22_alive_c1 at hm
  refine w_norm [0, 1, 2, 3] rfl rfl ?_
  refine twp_rseq ?_
  refine s_bx 0 rfl rfl rfl ?_
  refine s_al 1 rfl rfl zero36 rfl ?_
  refine tops_nil ?_
  refine w_norm [1, 2, 3, 4, 7] rfl rfl ?_
  refine twp_rseq ?_
  iterate 2 (refine s_a tab_ok rfl ?_)
  refine s_x rfl rfl (x_lit [.tmp 9] tab_ok rfl rfl zero36 rfl rfl rfl rfl rfl) ?_
  refine s_x rfl rfl (build_d rfl plc28 zero28 rfl rfl rfl rfl) ?_
  refine s_wk 11 [none, some 1] rfl ?_
  iterate 2 (refine s_a tab_ok rfl ?_)
  refine s_x rfl rfl (x_lit [.tmp 13] tab_ok rfl rfl zero4 rfl rfl rfl rfl rfl) ?_
  refine s_x rfl rfl (build_d rfl plc31 zero31 rfl rfl rfl rfl) ?_
  refine s_wk 15 [none, some 1, some 1, none, some 1, some 1, some 1] rfl ?_
  obtain ⟨r1, hr1, hm⟩ := bind_inv hm
  refine s_x rfl rfl (rd_callRN rfl rfl (snaps_cons (.d _) (snaps_cons (.d _) (snaps_cons (.d _) (snaps_cons (.d _) snaps_nil)))) (progress_Next_c hr1)) ?_
  refine s_a tab_ok rfl ?_
  refine tops_nil ?_
  refine w_norm [7] rfl rfl ?_
  refine twp_ret ?_
  obtain rfl := Option.some.inj hm
  exact EndsS.cellR _ tab_ok rfl rfl rfl rfl rfl (.d _)

theorem law22_alive_c  {r : Bool} (hm : law22_alive  = some r) : RetN Try.prog 10 [] (.bool (r)) := by
  refine .unit (ret_bodyS callB10 Try.func10 rfl Try.ntmps10 rfl rfl (fun wX gX => ?_)) rfl
  unfold law22_alive at hm
  refine w_norm [] rfl rfl ?_
  refine twp_rseq ?_
  refine s_a tab_ok rfl ?_
  refine tops_nil ?_
  refine w_norm [] rfl rfl ?_
  refine twp_rseq ?_
  obtain ⟨r1, hr1, hm⟩ := bind_inv hm
  refine s_x rfl rfl (rd_callRD rfl rfl rfl (law22_Table_c hr1)) ?_
  refine s_al 0 rfl rfl zero25 rfl ?_
  refine s_wkb 0 [some 14, some 1, some 1, none, none] rfl rfl ?_
  refine s_a tab_ok rfl ?_
  refine tops_nil ?_
  refine w_norm [1] rfl rfl ?_
  refine c_frz 0 rfl rfl rfl rfl ?_
  refine twp_rseq ?_
  iterate 2 (refine s_a tab_ok rfl ?_)
  refine tops_nil ?_
  refine w_norm [2] rfl rfl ?_
  refine twp_seq ?_
  refine w_joinM hm (fun x2 => ([(20, .d (.bool (x2)))] : Fr)) (fun x2 => ([] : List (Nat × Blk))) [20] [2] rfl (fun z3 hm => ?_) (fun x2 hm => ?_)
  · refine twp_region ?_
    refine s_a tab_ok rfl ?_
    refine s_x rfl rfl (build_d rfl plc36 zero36 rfl rfl rfl rfl) ?_
    refine s_x rfl rfl (x_lit [.const (Value.bool Bool.false), .const (Value.bool Bool.false), .const (Value.bool Bool.false)] tab_ok rfl rfl zero4 rfl rfl rfl rfl rfl) ?_
    obtain ⟨r4, hr4, hm⟩ := bind_inv hm
    refine s_x rfl rfl (rd_callC (ds := [.agg [.int .i64 (1 : Int), .int .i64 (0 : Int), .int .i64 (0 : Int)], .bool (false), .sl 1 (([false, false, false] : List Bool).map D.bool)]) rfl rfl rfl rfl ((law22_alive_c1_c hr4).retD)) ?_
    iterate 2 (refine s_a tab_ok rfl ?_)
    refine s_b tab_ok rfl (fun q5 hq5 => ?_)
    cases q5
    · replace hm := iteN_F hq5 hm
      refine s_a tab_ok rfl ?_
      refine s_x rfl rfl (build_d rfl plc36 zero36 rfl rfl rfl rfl) ?_
      refine s_x rfl rfl (x_lit [.const (Value.bool Bool.false), .const (Value.bool Bool.true), .const (Value.bool Bool.false)] tab_ok rfl rfl zero4 rfl rfl rfl rfl rfl) ?_
      obtain ⟨r6, hr6, hm⟩ := bind_inv hm
      refine s_x rfl rfl (rd_callC (ds := [.agg [.int .i64 (2 : Int), .int .i64 (0 : Int), .int .i64 (0 : Int)], .bool (false), .sl 1 (([false, true, false] : List Bool).map D.bool)]) rfl rfl rfl rfl ((law22_alive_c1_c hr6).retD)) ?_
      iterate 3 (refine s_a tab_ok rfl ?_)
      refine tops_nil ?_
      refine way_then ?_
      exact ⟨_, [0], (Option.some.inj hm).symm, rfl, k0, rfl⟩
    · replace hm := iteN_T hq5 hm
      iterate 7 (refine s_a tab_ok rfl ?_)
      refine tops_nil ?_
      refine way_then ?_
      exact ⟨_, [0], (Option.some.inj hm).symm, rfl, k0, rfl⟩
  · refine w_norm [2, 20] rfl rfl ?_
    refine twp_cond _ rfl (fun h7 => ?_) (fun h7 => ?_)
    · replace hm := iteB_T h7 hm
      refine twp_rseq ?_
      refine s_a tab_ok rfl ?_
      refine tops_nil ?_
      refine w_norm [0] rfl rfl ?_
      refine twp_ret ?_
      refine way_thenRet ?_
      obtain rfl := Option.some.inj hm
      exact EndsS.one _ rfl (.d _) (.refl _)
    · replace hm := iteB_F h7 hm
      refine twp_skip ?_
      refine way_then ?_
      refine w_norm [2] rfl rfl ?_
      refine twp_rseq ?_
      refine s_a tab_ok rfl ?_
      refine s_x rfl rfl (build_d rfl plc36 zero36 rfl rfl rfl rfl) ?_
      refine s_x rfl rfl (x_lit [.const (Value.bool Bool.false), .const (Value.bool Bool.false), .const (Value.bool Bool.true)] tab_ok rfl rfl zero4 rfl rfl rfl rfl rfl) ?_
      obtain ⟨r8, hr8, hm⟩ := bind_inv hm
      refine s_x rfl rfl (rd_callC (ds := [.agg [.int .i64 (3 : Int), .int .i64 (0 : Int), .int .i64 (0 : Int)], .bool (false), .sl 1 (([false, false, true] : List Bool).map D.bool)]) rfl rfl rfl rfl ((law22_alive_c1_c hr8).retD)) ?_
      refine s_a tab_ok rfl ?_
      refine s_x rfl rfl (build_d rfl plc36 zero36 rfl rfl rfl rfl) ?_
      refine s_x rfl rfl (x_lit [.const (Value.bool Bool.false), .const (Value.bool Bool.false), .const (Value.bool Bool.true)] tab_ok rfl rfl zero4 rfl rfl rfl rfl rfl) ?_
      obtain ⟨r9, hr9, hm⟩ := bind_inv hm
      refine s_x rfl rfl (rd_callC (ds := [.agg [.int .i64 (3 : Int), .int .i64 (0 : Int), .int .i64 (0 : Int)], .bool (true), .sl 1 (([false, false, true] : List Bool).map D.bool)]) rfl rfl rfl rfl ((law22_alive_c1_c hr9).retD)) ?_
      refine s_al 1 rfl rfl zero36 rfl ?_
      refine s_al 2 rfl rfl zero36 rfl ?_
      iterate 2 (refine s_a tab_ok rfl ?_)
      refine tops_nil ?_
      refine w_norm [2, 3, 4] rfl rfl ?_
      refine w_joinM hm (fun x10 => ([(0, .d (.bool (x10)))] : Fr)) (fun x10 => ([] : List (Nat × Blk))) [0] [] rfl (fun z11 hm => ?_) (fun x10 hm => ?_)
      · refine twp_region ?_
        iterate 3 (refine s_a tab_ok rfl ?_)
        refine s_b tab_ok rfl (fun q12 hq12 => ?_)
        cases q12
        · replace hm := ite_F hq12 hm
          iterate 22 (refine s_a tab_ok rfl ?_)
          refine tops_nil ?_
          refine way_then ?_
          exact ⟨_, [0, 1, 2], (Option.some.inj hm).symm, rfl, k0, rfl⟩
        · replace hm := ite_T hq12 hm
          iterate 4 (refine s_a tab_ok rfl ?_)
          refine s_b tab_ok rfl (fun q13 hq13 => ?_)
          cases q13
          · replace hm := ite_F hq13 hm
            iterate 17 (refine s_a tab_ok rfl ?_)
            refine tops_nil ?_
            refine way_then ?_
            exact ⟨_, [0, 1, 2], (Option.some.inj hm).symm, rfl, k0, rfl⟩
          · replace hm := ite_T hq13 hm
            iterate 4 (refine s_a tab_ok rfl ?_)
            refine s_b tab_ok rfl (fun q14 hq14 => ?_)
            cases q14
            · replace hm := ite_F hq14 hm
              iterate 12 (refine s_a tab_ok rfl ?_)
              refine tops_nil ?_
              refine way_then ?_
              exact ⟨_, [0, 1, 2], (Option.some.inj hm).symm, rfl, k0, rfl⟩
            · replace hm := ite_T hq14 hm
              refine s_a tab_ok rfl ?_
              refine s_x rfl rfl (build_d rfl plc36 zero36 rfl rfl rfl rfl) ?_
              refine s_x rfl rfl (x_lit [.const (Value.bool Bool.false), .const (Value.bool Bool.false), .const (Value.bool Bool.false)] tab_ok rfl rfl zero4 rfl rfl rfl rfl rfl) ?_
              obtain ⟨r15, hr15, hm⟩ := bind_inv hm
              refine s_x rfl rfl (rd_callC (ds := [.agg [.int .i64 (3 : Int), .int .i64 (1 : Int), .int .i64 (0 : Int)], .bool (false), .sl 1 (([false, false, false] : List Bool).map D.bool)]) rfl rfl rfl rfl ((law22_alive_c1_c hr15).retD)) ?_
              iterate 3 (refine s_a tab_ok rfl ?_)
              refine s_b tab_ok rfl (fun q16 hq16 => ?_)
              cases q16
              · replace hm := ite_F hq16 hm
                iterate 4 (refine s_a tab_ok rfl ?_)
                refine tops_nil ?_
                refine way_then ?_
                exact ⟨_, [0, 1, 2], (Option.some.inj hm).symm, rfl, k0, rfl⟩
              · replace hm := ite_T hq16 hm
                refine s_x rfl rfl (build_d rfl plc31 zero31 rfl rfl rfl rfl) ?_
                refine s_wk 51 [some 1, some 1, some 1, some 1, some 1, some 1, some 1] rfl ?_
                obtain ⟨r17, hr17, hm⟩ := bind_inv hm
                refine s_x rfl rfl (rd_callRN rfl rfl (snaps_cons (.d _) (snaps_cons (.d _) snaps_nil)) (progress_Occupied_c hr17)) ?_
                iterate 2 (refine s_a tab_ok rfl ?_)
                refine tops_nil ?_
                refine way_then ?_
                exact ⟨_, [0, 1, 2], (Option.some.inj hm).symm, rfl, k0, rfl⟩
      · refine w_norm [0] rfl rfl ?_
        refine twp_ret ?_
        obtain rfl := Option.some.inj hm
        exact EndsS.one _ rfl (.d _) (.refl _)

theorem ref16_sections_c {p0 : Table} {p1 : (List Int)} {r : Bool} (hm : ref16_sections p0 p1 = some r) : RetN Try.prog 75 [p0.enc, .sl 1 (p1.map (D.int .i64))] (.bool (r)) := by
  refine .unit (ret_bodyS callB75 Try.func75 rfl Try.ntmps75 rfl rfl (fun wX gX => ?_)) rfl
  unfold ref16_sections at hm
  refine w_norm [0, 1] rfl rfl ?_
  refine twp_rseq ?_
  refine s_bx 0 rfl rfl rfl ?_
  refine s_a tab_ok rfl ?_
  refine tops_nil ?_
  refine w_norm [1, 2] rfl rfl ?_
  refine w_joinS hm (fun _ => ([] : Fr)) (fun _ => ([] : List (Nat × Blk))) [] [] rfl (fun z1 hm hz1 => ?_) (fun j hm => ?_)
  · refine twp_rseq ?_
    refine s_a tab_ok rfl ?_
    refine s_x rfl rfl (x_len tab_ok rfl rfl rfl) ?_
    refine s_a tab_ok rfl ?_
    refine tops_nil ?_
    refine w_norm [1, 2, 8, 9, 10] rfl rfl ?_
    refine twp_block ?_
    refine w_loop hm (fun x3 => ([(10, .d (.int .i64 x3))] : Fr)) (fun x3 => ([] : List (Nat × Blk))) [10] [1, 2, 8, 9] [0] rfl k0 rfl rfl rfl rfl rfl (fun x3 z4 hm hz4 => ?_)
    refine w_norm [1, 2, 8, 9, 10] rfl rfl ?_
    refine twp_rseq ?_
    refine s_a tab_ok rfl ?_
    refine tops_nil ?_
    refine w_norm [1, 2, 8, 9, 10, 11] rfl rfl ?_
    refine twp_seq ?_
    refine twp_cond _ rfl (fun h5 => ?_) (fun h5 => ?_)
    · replace hm := ite_T h5 hm
      refine twp_skip ?_
      refine way_then ?_
      refine w_norm [1, 2, 8, 9, 10] rfl rfl ?_
      refine w_joinS hm (fun _ => ([] : Fr)) (fun _ => ([] : List (Nat × Blk))) [] [1, 2, 8, 9, 10] rfl (fun z6 hm hz6 => ?_) (fun j hm => ?_)
      · refine twp_block ?_
        refine twp_rseq ?_
        refine s_a tab_ok rfl ?_
        obtain ⟨e7, he7, hm⟩ := get_inv hm
        refine s_x rfl rfl (x_ix tab_ok rfl rfl rfl rfl he7) ?_
        iterate 3 (refine s_a tab_ok rfl ?_)
        refine tops_nil ?_
        refine w_norm [1, 2, 5, 6, 8, 9, 10] rfl rfl ?_
        refine twp_seq ?_
        refine w_cut [(22, .d (.bool (((decide (e7 < (0 : Int))) || (decide (p0.sections ≤ e7))))))] [22] [1, 2, 5, 6, 8, 9, 10] rfl ?_ ?_
        · refine twp_region ?_
          iterate 2 (refine s_a tab_ok rfl ?_)
          refine s_b tab_ok rfl (fun q8 hq8 => ?_)
          cases q8
          · iterate 5 (refine s_a tab_ok rfl ?_)
            refine tops_nil ?_
            refine way_then ?_
            exact ⟨[0], rfl, k0, st_eq (fr_cons (av_bool (by simp [hq8])) rfl) rfl⟩
          · iterate 5 (refine s_a tab_ok rfl ?_)
            refine tops_nil ?_
            refine way_then ?_
            exact ⟨[0], rfl, k0, st_eq (fr_cons (av_bool (by simp [hq8])) rfl) rfl⟩
        · refine w_norm [1, 2, 5, 6, 8, 9, 10, 22] rfl rfl ?_
          refine twp_cond _ rfl (fun h9 => ?_) (fun h9 => ?_)
          · replace hm := iteB_T h9 hm
            refine twp_rseq ?_
            refine s_a tab_ok rfl ?_
            refine tops_nil ?_
            refine w_norm [4] rfl rfl ?_
            refine twp_ret ?_
            refine way_thenRet ?_
            refine way_blockRet ?_
            obtain ⟨v10, hm, hz⟩ := inr_inv hm
            rw [hz6 _ hz] at hm
            refine way_thenRet ?_
            obtain ⟨v11, hm, hz⟩ := inr_inv hm
            rw [hz4 _ hz] at hm
            refine way_thenRet ?_
            refine way_blockRet ?_
            obtain ⟨v12, hm, hz⟩ := inr_inv hm
            rw [hz1 _ hz] at hm
            refine way_thenRet ?_
            obtain rfl := Option.some.inj hm
            exact EndsS.one _ rfl (.d _) (.refl _)
          · replace hm := iteB_F h9 hm
            refine twp_skip ?_
            refine way_then ?_
            refine w_norm [1, 2, 5, 6, 8, 9, 10] rfl rfl ?_
            refine twp_rseq ?_
            iterate 2 (refine s_a tab_ok rfl ?_)
            refine tops_nil ?_
            refine w_norm [1, 2, 6, 8, 9, 10, 23, 24] rfl rfl ?_
            refine twp_block ?_
            refine w_loop hm (fun x14 => ([(24, .d (.int .i64 x14))] : Fr)) (fun x14 => ([] : List (Nat × Blk))) [24] [1, 2, 6, 8, 9, 10, 23] [0] rfl k0 rfl rfl rfl rfl rfl (fun x14 z15 hm hz15 => ?_)
            refine w_norm [1, 2, 6, 8, 9, 10, 23, 24] rfl rfl ?_
            refine twp_rseq ?_
            refine s_a tab_ok rfl ?_
            refine tops_nil ?_
            refine w_norm [1, 2, 6, 8, 9, 10, 23, 24, 25] rfl rfl ?_
            refine twp_seq ?_
            refine twp_cond _ rfl (fun h16 => ?_) (fun h16 => ?_)
            · replace hm := ite_T h16 hm
              refine twp_skip ?_
              refine way_then ?_
              refine w_norm [1, 2, 6, 8, 9, 10, 23, 24] rfl rfl ?_
              refine twp_seq ?_
              refine twp_block ?_
              refine twp_rseq ?_
              iterate 2 (refine s_a tab_ok rfl ?_)
              refine tops_nil ?_
              refine w_norm [1, 2, 6, 7, 8, 9, 10, 23, 24] rfl rfl ?_
              refine twp_rseq ?_
              iterate 2 (refine s_a tab_ok rfl ?_)
              obtain ⟨e17, he17, hm⟩ := get_inv hm
              refine s_x rfl rfl (x_ix tab_ok rfl rfl rfl rfl he17) ?_
              iterate 3 (refine s_a tab_ok rfl ?_)
              refine tops_nil ?_
              refine w_norm [1, 2, 6, 8, 9, 10, 23, 24, 32] rfl rfl ?_
              refine twp_cond _ rfl (fun h18 => ?_) (fun h18 => ?_)
              · replace hm := ite_T h18 hm
                refine twp_rseq ?_
                refine s_a tab_ok rfl ?_
                refine tops_nil ?_
                refine w_norm [4] rfl rfl ?_
                refine twp_ret ?_
                refine way_blockRet ?_
                refine way_thenRet ?_
                obtain ⟨v19, hm, hz⟩ := inr_inv hm
                rw [hz15 _ hz] at hm
                refine way_thenRet ?_
                refine way_blockRet ?_
                refine way_blockRet ?_
                obtain ⟨v20, hm, hz⟩ := inr_inv hm
                rw [hz6 _ hz] at hm
                refine way_thenRet ?_
                obtain ⟨v21, hm, hz⟩ := inr_inv hm
                rw [hz4 _ hz] at hm
                refine way_thenRet ?_
                refine way_blockRet ?_
                obtain ⟨v22, hm, hz⟩ := inr_inv hm
                rw [hz1 _ hz] at hm
                refine way_thenRet ?_
                obtain rfl := Option.some.inj hm
                exact EndsS.one _ rfl (.d _) (.refl _)
              · replace hm := ite_F h18 hm
                refine twp_skip ?_
                refine way_block ?_
                refine way_then ?_
                refine w_norm [1, 2, 6, 8, 9, 10, 23, 24] rfl rfl ?_
                refine twp_region ?_
                obtain ⟨g23, hm⟩ := guard_inv hm
                refine s_x rfl rfl (x_ar rfl rfl rfl rfl g23) ?_
                refine s_a tab_ok rfl ?_
                refine tops_nil ?_
                refine way_then ?_
                exact ⟨_, [0], (Option.some.inj hm).symm, rfl, k0, rfl⟩
            · replace hm := ite_F h16 hm
              refine twp_exit ?_
              refine way_thenExit ?_
              obtain ⟨v24, hm, hz⟩ := inr_inv hm
              rw [hz15 _ hz] at hm
              refine way_thenExit ?_
              refine way_here ?_
              refine way_block ?_
              refine way_then ?_
              exact ⟨_, [0], (Option.some.inj hm).symm, rfl, k0, rfl⟩
      · refine w_norm [1, 2, 8, 9, 10] rfl rfl ?_
        refine twp_region ?_
        obtain ⟨g25, hm⟩ := guard_inv hm
        refine s_x rfl rfl (x_ar rfl rfl rfl rfl g25) ?_
        refine s_a tab_ok rfl ?_
        refine tops_nil ?_
        refine way_then ?_
        exact ⟨_, [0], (Option.some.inj hm).symm, rfl, k0, rfl⟩
    · replace hm := ite_F h5 hm
      refine twp_exit ?_
      refine way_thenExit ?_
      obtain ⟨v26, hm, hz⟩ := inr_inv hm
      rw [hz4 _ hz] at hm
      refine way_thenExit ?_
      refine way_here ?_
      refine way_then ?_
      exact ⟨_, [0], (Option.some.inj hm).symm, rfl, k0, rfl⟩
  · refine w_norm [] rfl rfl ?_
    refine twp_rseq ?_
    refine s_a tab_ok rfl ?_
    refine tops_nil ?_
    refine w_norm [4] rfl rfl ?_
    refine twp_ret ?_
    obtain rfl := Option.some.inj hm
    exact EndsS.one _ rfl (.d _) (.refl _)

theorem ref16_right_c {p0 : Table} {p1 : Route} {r : Bool} (hm : ref16_right p0 p1 = some r) : RetN Try.prog 55 [p0.enc, p1.enc] (.bool (r)) := by
  refine .unit (ret_bodyS callB55 Try.func55 rfl Try.ntmps55 rfl rfl (fun wX gX => ?_)) rfl
  unfold ref16_right at hm
  refine w_norm [0, 1] rfl rfl ?_
  refine twp_rseq ?_
  refine s_bx 0 rfl rfl rfl ?_
  refine s_bx 1 rfl rfl rfl ?_
  refine s_a tab_ok rfl ?_
  refine tops_nil ?_
  refine w_norm [2, 3] rfl rfl ?_
  refine twp_seq ?_
  refine w_cut [(44, .d (.bool (((decide (p1.entry < (0 : Int))) || ((decide (p0.signals ≤ p1.entry)) || ((decide (p1.exit < (-1 : Int))) || ((decide (p0.signals ≤ p1.exit)) || ((decide ((p1.path.length : Int) < (1 : Int))) || ((decide ((12 : Int) < (p1.path.length : Int))) || (decide (p1.length < (1 : Int))))))))))))] [44] [2, 3] rfl ?_ ?_
  · refine twp_region ?_
    iterate 3 (refine s_a tab_ok rfl ?_)
    refine s_b tab_ok rfl (fun q1 hq1 => ?_)
    cases q1
    · iterate 6 (refine s_a tab_ok rfl ?_)
      refine s_b tab_ok rfl (fun q2 hq2 => ?_)
      cases q2
      · iterate 4 (refine s_a tab_ok rfl ?_)
        refine s_b tab_ok rfl (fun q3 hq3 => ?_)
        cases q3
        · iterate 6 (refine s_a tab_ok rfl ?_)
          refine s_b tab_ok rfl (fun q4 hq4 => ?_)
          cases q4
          · iterate 2 (refine s_a tab_ok rfl ?_)
            refine s_x rfl rfl (x_len tab_ok rfl rfl rfl) ?_
            iterate 2 (refine s_a tab_ok rfl ?_)
            refine s_b tab_ok rfl (fun q5 hq5 => ?_)
            cases q5
            · iterate 2 (refine s_a tab_ok rfl ?_)
              refine s_x rfl rfl (x_len tab_ok rfl rfl rfl) ?_
              iterate 2 (refine s_a tab_ok rfl ?_)
              refine s_b tab_ok rfl (fun q6 hq6 => ?_)
              cases q6
              · iterate 4 (refine s_a tab_ok rfl ?_)
                refine tops_nil ?_
                refine way_then ?_
                exact ⟨[0, 1], rfl, k0, st_eq (fr_cons (av_bool (by simp [hq1, hq2, hq3, hq4, hq5, hq6])) rfl) rfl⟩
              · iterate 4 (refine s_a tab_ok rfl ?_)
                refine tops_nil ?_
                refine way_then ?_
                exact ⟨[0, 1], rfl, k0, st_eq (fr_cons (av_bool (by simp [hq1, hq2, hq3, hq4, hq5, hq6])) rfl) rfl⟩
            · iterate 10 (refine s_a tab_ok rfl ?_)
              refine tops_nil ?_
              refine way_then ?_
              exact ⟨[0, 1], rfl, k0, st_eq (fr_cons (av_bool (by simp [hq1, hq2, hq3, hq4, hq5])) rfl) rfl⟩
          · iterate 16 (refine s_a tab_ok rfl ?_)
            refine tops_nil ?_
            refine way_then ?_
            exact ⟨[0, 1], rfl, k0, st_eq (fr_cons (av_bool (by simp [hq1, hq2, hq3, hq4])) rfl) rfl⟩
        · iterate 23 (refine s_a tab_ok rfl ?_)
          refine tops_nil ?_
          refine way_then ?_
          exact ⟨[0, 1], rfl, k0, st_eq (fr_cons (av_bool (by simp [hq1, hq2, hq3])) rfl) rfl⟩
      · iterate 28 (refine s_a tab_ok rfl ?_)
        refine tops_nil ?_
        refine way_then ?_
        exact ⟨[0, 1], rfl, k0, st_eq (fr_cons (av_bool (by simp [hq1, hq2])) rfl) rfl⟩
    · iterate 35 (refine s_a tab_ok rfl ?_)
      refine tops_nil ?_
      refine way_then ?_
      exact ⟨[0, 1], rfl, k0, st_eq (fr_cons (av_bool (by simp [hq1])) rfl) rfl⟩
  · refine w_norm [2, 3, 44] rfl rfl ?_
    refine twp_cond _ rfl (fun h7 => ?_) (fun h7 => ?_)
    · replace hm := iteB_T h7 hm
      refine twp_rseq ?_
      refine s_a tab_ok rfl ?_
      refine tops_nil ?_
      refine w_norm [4] rfl rfl ?_
      refine twp_ret ?_
      refine way_thenRet ?_
      obtain rfl := Option.some.inj hm
      exact EndsS.one _ rfl (.d _) (.refl _)
    · replace hm := iteB_F h7 hm
      refine twp_skip ?_
      refine way_then ?_
      refine w_norm [2, 3] rfl rfl ?_
      refine twp_rseq ?_
      refine s_nilO (f := (D.int .i64)) 2 3 1 rfl rfl rfl ?_
      refine tops_nil ?_
      refine w_norm [2, 3, 5] rfl rfl ?_
      refine twp_rseq ?_
      iterate 3 (refine s_a tab_ok rfl ?_)
      obtain ⟨g8, hm⟩ := guard_inv hm
      refine s_app (f := (D.int .i64)) p1.sections tab_ok rfl rfl zero3 rfl rfl rfl rfl rfl (fun h => absurd h (Nat.not_lt_zero _)) rfl src_d g8 rfl rfl ?_
      refine s_a tab_ok rfl ?_
      refine tops_nil ?_
      refine w_norm [2, 3, 5] rfl rfl ?_
      refine twp_rseq ?_
      iterate 3 (refine s_a tab_ok rfl ?_)
      obtain ⟨g9, hm⟩ := guard_inv hm
      refine s_app (f := (D.int .i64)) p1.overSections tab_ok rfl rfl zero3 rfl rfl rfl rfl rfl (fun h => absurd h (Nat.not_lt_zero _)) rfl src_d g9 rfl rfl ?_
      refine s_a tab_ok rfl ?_
      refine tops_nil ?_
      refine w_norm [2, 3, 5] rfl rfl ?_
      refine w_joinM hm (fun x10 => ([(4, .d (.bool (x10)))] : Fr)) (fun x10 => ([] : List (Nat × Blk))) [4] [] rfl (fun z11 hm => ?_) (fun x10 hm => ?_)
      · refine twp_region ?_
        iterate 2 (refine s_a tab_ok rfl ?_)
        refine s_x rfl rfl (x_len tab_ok rfl rfl rfl) ?_
        refine s_a tab_ok rfl ?_
        refine s_b tab_ok rfl (fun q12 hq12 => ?_)
        cases q12
        · replace hm := ite_F hq12 hm
          iterate 17 (refine s_a tab_ok rfl ?_)
          refine tops_nil ?_
          refine way_then ?_
          exact ⟨_, [0, 1, 2], (Option.some.inj hm).symm, rfl, k0, rfl⟩
        · replace hm := ite_T hq12 hm
          iterate 2 (refine s_a tab_ok rfl ?_)
          obtain ⟨r13, hr13, hm⟩ := bind_inv hm
          refine s_x rfl rfl (rd_callRN rfl rfl (snaps_cons (.d _) (snaps_cons (snap_map rfl) snaps_nil)) (ref16_sections_c hr13)) ?_
          refine s_a tab_ok rfl ?_
          refine s_b tab_ok rfl (fun q14 hq14 => ?_)
          cases q14
          · replace hm := iteB_F hq14 hm
            iterate 12 (refine s_a tab_ok rfl ?_)
            refine tops_nil ?_
            refine way_then ?_
            exact ⟨_, [0, 1, 2], (Option.some.inj hm).symm, rfl, k0, rfl⟩
          · replace hm := iteB_T hq14 hm
            iterate 4 (refine s_a tab_ok rfl ?_)
            refine s_b tab_ok rfl (fun q15 hq15 => ?_)
            cases q15
            · replace hm := ite_F hq15 hm
              iterate 7 (refine s_a tab_ok rfl ?_)
              refine tops_nil ?_
              refine way_then ?_
              exact ⟨_, [0, 1, 2], (Option.some.inj hm).symm, rfl, k0, rfl⟩
            · replace hm := ite_T hq15 hm
              iterate 7 (refine s_a tab_ok rfl ?_)
              refine tops_nil ?_
              refine way_then ?_
              exact ⟨_, [0, 1, 2], (Option.some.inj hm).symm, rfl, k0, rfl⟩
      · refine w_norm [4] rfl rfl ?_
        refine twp_ret ?_
        obtain rfl := Option.some.inj hm
        exact EndsS.one _ rfl (.d _) (.refl _)

theorem ref16_Index_c {p0 : Table} {p1 : Int} {r : Int} (hm : ref16_Index p0 p1 = some r) : RetN Try.prog 44 [p0.enc, .int .i64 p1] (.int .i64 r) := by
  refine .unit (ret_bodyS callB44 Try.func44 rfl Try.ntmps44 rfl rfl (fun wX gX => ?_)) rfl
  unfold ref16_Index at hm
  refine w_norm [0, 1] rfl rfl ?_
  refine twp_rseq ?_
  refine s_bx 0 rfl rfl rfl ?_
  refine s_a tab_ok rfl ?_
  refine tops_nil ?_
  refine w_norm [1, 2] rfl rfl ?_
  refine w_joinS hm (fun _ => ([] : Fr)) (fun _ => ([] : List (Nat × Blk))) [] [] rfl (fun z1 hm hz1 => ?_) (fun j hm => ?_)
  · refine twp_rseq ?_
    iterate 2 (refine s_a tab_ok rfl ?_)
    refine s_x rfl rfl (x_len tab_ok rfl rfl rfl) ?_
    refine s_a tab_ok rfl ?_
    refine tops_nil ?_
    refine w_norm [1, 8, 9, 10] rfl rfl ?_
    refine twp_block ?_
    refine w_loop hm (fun x3 => ([(10, .d (.int .i64 x3))] : Fr)) (fun x3 => ([] : List (Nat × Blk))) [10] [1, 8, 9] [0] rfl k0 rfl rfl rfl rfl rfl (fun x3 z4 hm hz4 => ?_)
    refine w_norm [1, 8, 9, 10] rfl rfl ?_
    refine twp_rseq ?_
    refine s_a tab_ok rfl ?_
    refine tops_nil ?_
    refine w_norm [1, 8, 9, 10, 11] rfl rfl ?_
    refine twp_seq ?_
    refine twp_cond _ rfl (fun h5 => ?_) (fun h5 => ?_)
    · replace hm := ite_T h5 hm
      refine twp_skip ?_
      refine way_then ?_
      refine w_norm [1, 8, 9, 10] rfl rfl ?_
      refine twp_seq ?_
      refine twp_block ?_
      refine twp_rseq ?_
      refine s_a tab_ok rfl ?_
      obtain ⟨e6, he6, hm⟩ := get_inv hm
      refine s_x rfl rfl (x_ix tab_ok rfl rfl rfl rfl he6) ?_
      iterate 3 (refine s_a tab_ok rfl ?_)
      refine tops_nil ?_
      refine w_norm [1, 5, 6, 8, 9, 10] rfl rfl ?_
      refine twp_rseq ?_
      iterate 3 (refine s_a tab_ok rfl ?_)
      refine tops_nil ?_
      refine w_norm [1, 5, 8, 9, 10, 17] rfl rfl ?_
      refine twp_cond _ rfl (fun h7 => ?_) (fun h7 => ?_)
      · replace hm := ite_T h7 hm
        refine twp_rseq ?_
        iterate 2 (refine s_a tab_ok rfl ?_)
        refine tops_nil ?_
        refine w_norm [4] rfl rfl ?_
        refine twp_ret ?_
        refine way_blockRet ?_
        refine way_thenRet ?_
        obtain ⟨v8, hm, hz⟩ := inr_inv hm
        rw [hz4 _ hz] at hm
        refine way_thenRet ?_
        refine way_blockRet ?_
        obtain ⟨v9, hm, hz⟩ := inr_inv hm
        rw [hz1 _ hz] at hm
        refine way_thenRet ?_
        obtain rfl := Option.some.inj hm
        exact EndsS.one _ rfl (.d _) (.refl _)
      · replace hm := ite_F h7 hm
        refine twp_skip ?_
        refine way_block ?_
        refine way_then ?_
        refine w_norm [1, 8, 9, 10] rfl rfl ?_
        refine twp_region ?_
        obtain ⟨g10, hm⟩ := guard_inv hm
        refine s_x rfl rfl (x_ar rfl rfl rfl rfl g10) ?_
        refine s_a tab_ok rfl ?_
        refine tops_nil ?_
        refine way_then ?_
        exact ⟨_, [0], (Option.some.inj hm).symm, rfl, k0, rfl⟩
    · replace hm := ite_F h5 hm
      refine twp_exit ?_
      refine way_thenExit ?_
      obtain ⟨v11, hm, hz⟩ := inr_inv hm
      rw [hz4 _ hz] at hm
      refine way_thenExit ?_
      refine way_here ?_
      refine way_then ?_
      exact ⟨_, [0], (Option.some.inj hm).symm, rfl, k0, rfl⟩
  · refine w_norm [] rfl rfl ?_
    refine twp_rseq ?_
    refine s_a tab_ok rfl ?_
    refine tops_nil ?_
    refine w_norm [4] rfl rfl ?_
    refine twp_ret ?_
    obtain rfl := Option.some.inj hm
    exact EndsS.one _ rfl (.d _) (.refl _)

theorem ref16_settings_c {p0 : Table} {p1 : (List Setting)} {r : Bool} (hm : ref16_settings p0 p1 = some r) : RetN Try.prog 56 [p0.enc, .sl 2 (p1.map Setting.enc)] (.bool (r)) := by
  refine .unit (ret_bodyS callB56 Try.func56 rfl Try.ntmps56 rfl rfl (fun wX gX => ?_)) rfl
  unfold ref16_settings at hm
  refine w_norm [0, 1] rfl rfl ?_
  refine twp_rseq ?_
  refine s_bx 0 rfl rfl rfl ?_
  refine s_a tab_ok rfl ?_
  refine tops_nil ?_
  refine w_norm [1, 2] rfl rfl ?_
  refine w_joinS hm (fun _ => ([] : Fr)) (fun _ => ([] : List (Nat × Blk))) [] [] rfl (fun z1 hm hz1 => ?_) (fun j hm => ?_)
  · refine twp_rseq ?_
    refine s_a tab_ok rfl ?_
    refine s_x rfl rfl (x_len tab_ok rfl rfl rfl) ?_
    refine s_a tab_ok rfl ?_
    refine tops_nil ?_
    refine w_norm [1, 2, 7, 8, 9] rfl rfl ?_
    refine twp_block ?_
    refine w_loop hm (fun x3 => ([(9, .d (.int .i64 x3))] : Fr)) (fun x3 => ([] : List (Nat × Blk))) [9] [1, 2, 7, 8] [0] rfl k0 rfl rfl rfl rfl rfl (fun x3 z4 hm hz4 => ?_)
    refine w_norm [1, 2, 7, 8, 9] rfl rfl ?_
    refine twp_rseq ?_
    refine s_a tab_ok rfl ?_
    refine tops_nil ?_
    refine w_norm [1, 2, 7, 8, 9, 10] rfl rfl ?_
    refine twp_seq ?_
    refine twp_cond _ rfl (fun h5 => ?_) (fun h5 => ?_)
    · replace hm := ite_T h5 hm
      refine twp_skip ?_
      refine way_then ?_
      refine w_norm [1, 2, 7, 8, 9] rfl rfl ?_
      refine twp_seq ?_
      refine twp_block ?_
      refine twp_rseq ?_
      refine s_a tab_ok rfl ?_
      obtain ⟨e6, he6, hm⟩ := get_inv hm
      refine s_x rfl rfl (x_ix tab_ok rfl rfl rfl rfl he6) ?_
      refine s_a tab_ok rfl ?_
      refine s_al 1 rfl rfl zero43 rfl ?_
      iterate 2 (refine s_a tab_ok rfl ?_)
      refine tops_nil ?_
      refine w_norm [1, 2, 5, 6, 7, 8, 9] rfl rfl ?_
      refine w_joinM hm (fun x7 => ([(43, .d (.bool (x7)))] : Fr)) (fun x7 => ([] : List (Nat × Blk))) [43] [1, 2, 7, 8, 9] rfl (fun z8 hm => ?_) (fun x7 hm => ?_)
      · refine twp_draw follows  ?_
        iterate 3 (refine d_a [0, 1] tab_ok rfl ?_)
        obtain ⟨r9, hr9, hm⟩ := bind_inv hm
        refine d_x [0, 1] rfl rfl (rd_callRN rfl rfl (snaps_cons (.d _) (snaps_cons (.d _) snaps_nil)) (ref16_Index_c hr9)) ?_
        refine d_a [0, 1] tab_ok rfl ?_
        refine d_b [0, 1] tab_ok rfl (fun q10 hq10 => ?_)
        cases q10
        · replace hm := ite_F hq10 hm
          iterate 4 (refine d_a [0, 1] tab_ok rfl ?_)
          refine d_b [0, 1] tab_ok rfl (fun q11 hq11 => ?_)
          cases q11
          · replace hm := ite_F hq11 hm
            iterate 4 (refine d_a [0, 1] tab_ok rfl ?_)
            refine d_b [0, 1] tab_ok rfl (fun q12 hq12 => ?_)
            cases q12
            · replace hm := ite_F hq12 hm
              iterate 2 (refine d_a [0, 1] tab_ok rfl ?_)
              refine d_b [0, 1] tab_ok rfl (fun q13 hq13 => ?_)
              cases q13
              · replace hm := ite_F hq13 hm
                iterate 11 (refine d_a [0, 1] tab_ok rfl ?_)
                refine d_tail ?_ (by kernel_rfl)
                refine tops_nil ?_
                refine way_then ?_
                exact ⟨_, [0, 1], (Option.some.inj hm).symm, rfl, k0, rfl⟩
              · replace hm := ite_T hq13 hm
                iterate 2 (refine d_a [0, 1] tab_ok rfl ?_)
                obtain ⟨g14, hm⟩ := guard_inv hm
                refine d_x [0, 1] rfl rfl (x_ar rfl rfl rfl rfl g14) ?_
                obtain ⟨e15, he15, hm⟩ := get_inv hm
                refine d_x [0, 1] rfl rfl (x_ix tab_ok rfl rfl rfl rfl he15) ?_
                iterate 7 (refine d_a [0, 1] tab_ok rfl ?_)
                refine d_tail ?_ (by kernel_rfl)
                refine tops_nil ?_
                refine way_then ?_
                exact ⟨_, [0, 1], (Option.some.inj hm).symm, rfl, k0, rfl⟩
            · replace hm := ite_T hq12 hm
              iterate 14 (refine d_a [0, 1] tab_ok rfl ?_)
              refine d_tail ?_ (by kernel_rfl)
              refine tops_nil ?_
              refine way_then ?_
              exact ⟨_, [0, 1], (Option.some.inj hm).symm, rfl, k0, rfl⟩
          · replace hm := ite_T hq11 hm
            iterate 19 (refine d_a [0, 1] tab_ok rfl ?_)
            refine d_tail ?_ (by kernel_rfl)
            refine tops_nil ?_
            refine way_then ?_
            exact ⟨_, [0, 1], (Option.some.inj hm).symm, rfl, k0, rfl⟩
        · replace hm := ite_T hq10 hm
          iterate 24 (refine d_a [0, 1] tab_ok rfl ?_)
          refine d_tail ?_ (by kernel_rfl)
          refine tops_nil ?_
          refine way_then ?_
          exact ⟨_, [0, 1], (Option.some.inj hm).symm, rfl, k0, rfl⟩
      · refine w_norm [1, 2, 7, 8, 9, 43] rfl rfl ?_
        refine twp_cond _ rfl (fun h16 => ?_) (fun h16 => ?_)
        · replace hm := iteB_T h16 hm
          refine twp_rseq ?_
          refine s_a tab_ok rfl ?_
          refine tops_nil ?_
          refine w_norm [4] rfl rfl ?_
          refine twp_ret ?_
          refine way_blockRet ?_
          refine way_thenRet ?_
          obtain ⟨v17, hm, hz⟩ := inr_inv hm
          rw [hz4 _ hz] at hm
          refine way_thenRet ?_
          refine way_blockRet ?_
          obtain ⟨v18, hm, hz⟩ := inr_inv hm
          rw [hz1 _ hz] at hm
          refine way_thenRet ?_
          obtain rfl := Option.some.inj hm
          exact EndsS.one _ rfl (.d _) (.refl _)
        · replace hm := iteB_F h16 hm
          refine twp_skip ?_
          refine way_block ?_
          refine way_then ?_
          refine w_norm [1, 2, 7, 8, 9] rfl rfl ?_
          refine twp_region ?_
          obtain ⟨g19, hm⟩ := guard_inv hm
          refine s_x rfl rfl (x_ar rfl rfl rfl rfl g19) ?_
          refine s_a tab_ok rfl ?_
          refine tops_nil ?_
          refine way_then ?_
          exact ⟨_, [0], (Option.some.inj hm).symm, rfl, k0, rfl⟩
    · replace hm := ite_F h5 hm
      refine twp_exit ?_
      refine way_thenExit ?_
      obtain ⟨v20, hm, hz⟩ := inr_inv hm
      rw [hz4 _ hz] at hm
      refine way_thenExit ?_
      refine way_here ?_
      refine way_then ?_
      exact ⟨_, [0], (Option.some.inj hm).symm, rfl, k0, rfl⟩
  · refine w_norm [] rfl rfl ?_
    refine twp_rseq ?_
    refine s_a tab_ok rfl ?_
    refine tops_nil ?_
    refine w_norm [4] rfl rfl ?_
    refine twp_ret ?_
    obtain rfl := Option.some.inj hm
    exact EndsS.one _ rfl (.d _) (.refl _)

theorem ref16_agree_c {p0 : (List Setting)} {p1 : (List Setting)} {r : Bool} (hm : ref16_agree p0 p1 = some r) : RetN Try.prog 57 [.sl 2 (p0.map Setting.enc), .sl 2 (p1.map Setting.enc)] (.bool (r)) := by
  refine .unit (ret_bodyS callB57 Try.func57 rfl Try.ntmps57 rfl rfl (fun wX gX => ?_)) rfl
  unfold ref16_agree at hm
  refine w_norm [0, 1] rfl rfl ?_
  refine twp_rseq ?_
  refine s_a tab_ok rfl ?_
  refine tops_nil ?_
  refine w_norm [0, 1] rfl rfl ?_
  refine w_joinS hm (fun _ => ([] : Fr)) (fun _ => ([] : List (Nat × Blk))) [] [] rfl (fun z1 hm hz1 => ?_) (fun j hm => ?_)
  · refine twp_rseq ?_
    refine s_a tab_ok rfl ?_
    refine s_x rfl rfl (x_len tab_ok rfl rfl rfl) ?_
    refine s_a tab_ok rfl ?_
    refine tops_nil ?_
    refine w_norm [1, 9, 10, 11] rfl rfl ?_
    refine twp_block ?_
    refine w_loop hm (fun x3 => ([(11, .d (.int .i64 x3))] : Fr)) (fun x3 => ([] : List (Nat × Blk))) [11] [1, 9, 10] [] rfl k0 rfl rfl rfl rfl rfl (fun x3 z4 hm hz4 => ?_)
    refine w_norm [1, 9, 10, 11] rfl rfl ?_
    refine twp_rseq ?_
    refine s_a tab_ok rfl ?_
    refine tops_nil ?_
    refine w_norm [1, 9, 10, 11, 12] rfl rfl ?_
    refine twp_seq ?_
    refine twp_cond _ rfl (fun h5 => ?_) (fun h5 => ?_)
    · replace hm := ite_T h5 hm
      refine twp_skip ?_
      refine way_then ?_
      refine w_norm [1, 9, 10, 11] rfl rfl ?_
      refine w_joinS hm (fun _ => ([] : Fr)) (fun _ => ([] : List (Nat × Blk))) [] [1, 9, 10, 11] rfl (fun z6 hm hz6 => ?_) (fun j hm => ?_)
      · refine twp_block ?_
        refine twp_rseq ?_
        obtain ⟨e7, he7, hm⟩ := get_inv hm
        refine s_x rfl rfl (x_ix tab_ok rfl rfl rfl rfl he7) ?_
        refine s_a tab_ok rfl ?_
        refine s_al 0 rfl rfl zero43 rfl ?_
        refine s_a tab_ok rfl ?_
        refine tops_nil ?_
        refine w_norm [1, 6, 9, 10, 11] rfl rfl ?_
        refine twp_rseq ?_
        refine s_a tab_ok rfl ?_
        refine s_x rfl rfl (x_len tab_ok rfl rfl rfl) ?_
        refine s_a tab_ok rfl ?_
        refine tops_nil ?_
        refine w_norm [1, 6, 9, 10, 11, 15, 16, 17] rfl rfl ?_
        refine twp_block ?_
        refine w_loop hm (fun x9 => ([(17, .d (.int .i64 x9))] : Fr)) (fun x9 => ([] : List (Nat × Blk))) [17] [1, 6, 9, 10, 11, 15, 16] [0] rfl k0 rfl rfl rfl rfl rfl (fun x9 z10 hm hz10 => ?_)
        refine w_norm [1, 6, 9, 10, 11, 15, 16, 17] rfl rfl ?_
        refine twp_rseq ?_
        refine s_a tab_ok rfl ?_
        refine tops_nil ?_
        refine w_norm [1, 6, 9, 10, 11, 15, 16, 17, 18] rfl rfl ?_
        refine twp_seq ?_
        refine twp_cond _ rfl (fun h11 => ?_) (fun h11 => ?_)
        · replace hm := ite_T h11 hm
          refine twp_skip ?_
          refine way_then ?_
          refine w_norm [1, 6, 9, 10, 11, 15, 16, 17] rfl rfl ?_
          refine twp_seq ?_
          refine twp_block ?_
          refine twp_rseq ?_
          obtain ⟨e12, he12, hm⟩ := get_inv hm
          refine s_x rfl rfl (x_ix tab_ok rfl rfl rfl rfl he12) ?_
          refine s_a tab_ok rfl ?_
          refine s_al 1 rfl rfl zero43 rfl ?_
          refine s_a tab_ok rfl ?_
          refine tops_nil ?_
          refine w_norm [1, 6, 8, 9, 10, 11, 15, 16, 17] rfl rfl ?_
          refine w_cut [(32, .d (.bool (((decide (e7.el = e12.el)) && (!(decide (e7.pos = e12.pos)))))))] [32] [1, 6, 9, 10, 11, 15, 16, 17] rfl ?_ ?_
          · refine twp_region ?_
            iterate 5 (refine s_a tab_ok rfl ?_)
            refine s_b tab_ok rfl (fun q13 hq13 => ?_)
            cases q13
            · iterate 6 (refine s_a tab_ok rfl ?_)
              refine tops_nil ?_
              refine way_then ?_
              exact ⟨[0, 1], rfl, k0, st_eq (fr_cons (av_bool (by simp [hq13])) rfl) rfl⟩
            · iterate 6 (refine s_a tab_ok rfl ?_)
              refine tops_nil ?_
              refine way_then ?_
              exact ⟨[0, 1], rfl, k0, st_eq (fr_cons (av_bool (by simp [hq13])) rfl) rfl⟩
          · refine w_norm [1, 6, 9, 10, 11, 15, 16, 17, 32] rfl rfl ?_
            refine twp_cond _ rfl (fun h14 => ?_) (fun h14 => ?_)
            · replace hm := iteB_T h14 hm
              refine twp_rseq ?_
              refine s_a tab_ok rfl ?_
              refine tops_nil ?_
              refine w_norm [4] rfl rfl ?_
              refine twp_ret ?_
              refine way_blockRet ?_
              refine way_thenRet ?_
              obtain ⟨v15, hm, hz⟩ := inr_inv hm
              rw [hz10 _ hz] at hm
              refine way_thenRet ?_
              refine way_blockRet ?_
              refine way_blockRet ?_
              obtain ⟨v16, hm, hz⟩ := inr_inv hm
              rw [hz6 _ hz] at hm
              refine way_thenRet ?_
              obtain ⟨v17, hm, hz⟩ := inr_inv hm
              rw [hz4 _ hz] at hm
              refine way_thenRet ?_
              refine way_blockRet ?_
              obtain ⟨v18, hm, hz⟩ := inr_inv hm
              rw [hz1 _ hz] at hm
              refine way_thenRet ?_
              obtain rfl := Option.some.inj hm
              exact EndsS.one _ rfl (.d _) (.refl _)
            · replace hm := iteB_F h14 hm
              refine twp_skip ?_
              refine way_block ?_
              refine way_then ?_
              refine w_norm [1, 6, 9, 10, 11, 15, 16, 17] rfl rfl ?_
              refine twp_region ?_
              obtain ⟨g19, hm⟩ := guard_inv hm
              refine s_x rfl rfl (x_ar rfl rfl rfl rfl g19) ?_
              refine s_a tab_ok rfl ?_
              refine tops_nil ?_
              refine way_then ?_
              exact ⟨_, [0], (Option.some.inj hm).symm, rfl, k0, rfl⟩
        · replace hm := ite_F h11 hm
          refine twp_exit ?_
          refine way_thenExit ?_
          obtain ⟨v20, hm, hz⟩ := inr_inv hm
          rw [hz10 _ hz] at hm
          refine way_thenExit ?_
          refine way_here ?_
          refine way_block ?_
          refine way_then ?_
          exact ⟨_, [], (Option.some.inj hm).symm, rfl, k0, rfl⟩
      · refine w_norm [1, 9, 10, 11] rfl rfl ?_
        refine twp_region ?_
        obtain ⟨g21, hm⟩ := guard_inv hm
        refine s_x rfl rfl (x_ar rfl rfl rfl rfl g21) ?_
        refine s_a tab_ok rfl ?_
        refine tops_nil ?_
        refine way_then ?_
        exact ⟨_, [], (Option.some.inj hm).symm, rfl, k0, rfl⟩
    · replace hm := ite_F h5 hm
      refine twp_exit ?_
      refine way_thenExit ?_
      obtain ⟨v22, hm, hz⟩ := inr_inv hm
      rw [hz4 _ hz] at hm
      refine way_thenExit ?_
      refine way_here ?_
      refine way_then ?_
      exact ⟨_, [], (Option.some.inj hm).symm, rfl, k0, rfl⟩
  · refine w_norm [] rfl rfl ?_
    refine twp_rseq ?_
    refine s_a tab_ok rfl ?_
    refine tops_nil ?_
    refine w_norm [4] rfl rfl ?_
    refine twp_ret ?_
    obtain rfl := Option.some.inj hm
    exact EndsS.one _ rfl (.d _) (.refl _)

end Go.Proofs.Ytkhdhopgiooloaa

set_option maxHeartbeats 8000000
set_option linter.unusedSimpArgs false
set_option linter.unusedVariables false
set_option maxRecDepth 20000
namespace Go.Proofs.Ytkhdhopgiooloaa
open Go Go.TL

theorem ref16_Find_c {p0 : Table} {p1 : ByteArray} {r : Int} (hm : ref16_Find p0 p1 = some r) : RetN Try.prog 58 [p0.enc, .str p1] (.int .i64 r) := by
  refine .unit (ret_bodyS callB58 Try.func58 rfl Try.ntmps58 rfl rfl (fun wX gX => ?_)) rfl
  unfold ref16_Find at hm
  refine w_norm [0, 1] rfl rfl ?_
  refine twp_rseq ?_
  refine s_bx 0 rfl rfl rfl ?_
  refine s_a tab_ok rfl ?_
  refine tops_nil ?_
  refine w_norm [1, 2] rfl rfl ?_
  refine w_joinS hm (fun _ => ([] : Fr)) (fun _ => ([] : List (Nat × Blk))) [] [] rfl (fun z1 hm hz1 => ?_) (fun j hm => ?_)
  · refine twp_rseq ?_
    iterate 2 (refine s_a tab_ok rfl ?_)
    refine s_x rfl rfl (x_len tab_ok rfl rfl rfl) ?_
    refine s_a tab_ok rfl ?_
    refine tops_nil ?_
    refine w_norm [1, 8, 9, 10] rfl rfl ?_
    refine twp_block ?_
    refine w_loop hm (fun x3 => ([(10, .d (.int .i64 x3))] : Fr)) (fun x3 => ([] : List (Nat × Blk))) [10] [1, 8, 9] [0] rfl k0 rfl rfl rfl rfl rfl (fun x3 z4 hm hz4 => ?_)
    refine w_norm [1, 8, 9, 10] rfl rfl ?_
    refine twp_rseq ?_
    refine s_a tab_ok rfl ?_
    refine tops_nil ?_
    refine w_norm [1, 8, 9, 10, 11] rfl rfl ?_
    refine twp_seq ?_
    refine twp_cond _ rfl (fun h5 => ?_) (fun h5 => ?_)
    · replace hm := ite_T h5 hm
      refine twp_skip ?_
      refine way_then ?_
      refine w_norm [1, 8, 9, 10] rfl rfl ?_
      refine twp_seq ?_
      refine twp_block ?_
      refine twp_rseq ?_
      refine s_a tab_ok rfl ?_
      obtain ⟨e6, he6, hm⟩ := get_inv hm
      refine s_x rfl rfl (x_ix tab_ok rfl rfl rfl rfl he6) ?_
      refine s_a tab_ok rfl ?_
      refine s_al 1 rfl rfl zero50 rfl ?_
      refine s_wkb 1 [none, none, none, some 3, some 2, some 1, none, none, some 3, some 2, some 1, some 2, some 1, some 2] rfl rfl ?_
      iterate 2 (refine s_a tab_ok rfl ?_)
      refine tops_nil ?_
      refine w_norm [1, 5, 6, 8, 9, 10] rfl rfl ?_
      refine twp_rseq ?_
      iterate 4 (refine s_a tab_ok rfl ?_)
      refine tops_nil ?_
      refine w_norm [1, 5, 8, 9, 10, 18] rfl rfl ?_
      refine twp_cond _ rfl (fun h7 => ?_) (fun h7 => ?_)
      · replace hm := ite_T h7 hm
        refine twp_rseq ?_
        iterate 2 (refine s_a tab_ok rfl ?_)
        refine tops_nil ?_
        refine w_norm [4] rfl rfl ?_
        refine twp_ret ?_
        refine way_blockRet ?_
        refine way_thenRet ?_
        obtain ⟨v8, hm, hz⟩ := inr_inv hm
        rw [hz4 _ hz] at hm
        refine way_thenRet ?_
        refine way_blockRet ?_
        obtain ⟨v9, hm, hz⟩ := inr_inv hm
        rw [hz1 _ hz] at hm
        refine way_thenRet ?_
        obtain rfl := Option.some.inj hm
        exact EndsS.one _ rfl (.d _) (.refl _)
      · replace hm := ite_F h7 hm
        refine twp_skip ?_
        refine way_block ?_
        refine way_then ?_
        refine w_norm [1, 8, 9, 10] rfl rfl ?_
        refine twp_region ?_
        obtain ⟨g10, hm⟩ := guard_inv hm
        refine s_x rfl rfl (x_ar rfl rfl rfl rfl g10) ?_
        refine s_a tab_ok rfl ?_
        refine tops_nil ?_
        refine way_then ?_
        exact ⟨_, [0], (Option.some.inj hm).symm, rfl, k0, rfl⟩
    · replace hm := ite_F h5 hm
      refine twp_exit ?_
      refine way_thenExit ?_
      obtain ⟨v11, hm, hz⟩ := inr_inv hm
      rw [hz4 _ hz] at hm
      refine way_thenExit ?_
      refine way_here ?_
      refine way_then ?_
      exact ⟨_, [0], (Option.some.inj hm).symm, rfl, k0, rfl⟩
  · refine w_norm [] rfl rfl ?_
    refine twp_rseq ?_
    refine s_a tab_ok rfl ?_
    refine tops_nil ?_
    refine w_norm [4] rfl rfl ?_
    refine twp_ret ?_
    obtain rfl := Option.some.inj hm
    exact EndsS.one _ rfl (.d _) (.refl _)

theorem ref16_Check_c {p0 : Table} {r : Int} (hm : ref16_Check p0 = some r) : RetN Try.prog 35 [p0.enc] (.int .i64 r) := by
  refine .unit (ret_bodyS callB35 Try.func35 rfl Try.ntmps35 rfl rfl (fun wX gX => ?_)) rfl
  unfold ref16_Check at hm
  refine w_norm [0] rfl rfl ?_
  refine twp_rseq ?_
  refine s_bx 0 rfl rfl rfl ?_
  refine s_a tab_ok rfl ?_
  refine tops_nil ?_
  refine w_norm [1] rfl rfl ?_
  refine twp_seq ?_
  refine w_cut [(40, .d (.bool (((decide ((48 : Int) < (p0.routes.length : Int))) || ((decide ((32 : Int) < (p0.points.length : Int))) || ((decide (p0.sections < (0 : Int))) || ((decide ((24 : Int) < p0.sections)) || ((decide (p0.signals < (0 : Int))) || (decide ((20 : Int) < p0.signals))))))))))] [40] [1] rfl ?_ ?_
  · refine twp_region ?_
    iterate 2 (refine s_a tab_ok rfl ?_)
    refine s_x rfl rfl (x_len tab_ok rfl rfl rfl) ?_
    refine s_a tab_ok rfl ?_
    refine s_b tab_ok rfl (fun q1 hq1 => ?_)
    cases q1
    · iterate 2 (refine s_a tab_ok rfl ?_)
      refine s_x rfl rfl (x_len tab_ok rfl rfl rfl) ?_
      iterate 2 (refine s_a tab_ok rfl ?_)
      refine s_b tab_ok rfl (fun q2 hq2 => ?_)
      cases q2
      · iterate 4 (refine s_a tab_ok rfl ?_)
        refine s_b tab_ok rfl (fun q3 hq3 => ?_)
        cases q3
        · iterate 4 (refine s_a tab_ok rfl ?_)
          refine s_b tab_ok rfl (fun q4 hq4 => ?_)
          cases q4
          · iterate 4 (refine s_a tab_ok rfl ?_)
            refine s_b tab_ok rfl (fun q5 hq5 => ?_)
            cases q5
            · iterate 4 (refine s_a tab_ok rfl ?_)
              refine tops_nil ?_
              refine way_then ?_
              exact ⟨[0], rfl, k0, st_eq (fr_cons (av_bool (by simp [hq1, hq2, hq3, hq4, hq5])) rfl) rfl⟩
            · iterate 4 (refine s_a tab_ok rfl ?_)
              refine tops_nil ?_
              refine way_then ?_
              exact ⟨[0], rfl, k0, st_eq (fr_cons (av_bool (by simp [hq1, hq2, hq3, hq4, hq5])) rfl) rfl⟩
          · iterate 9 (refine s_a tab_ok rfl ?_)
            refine tops_nil ?_
            refine way_then ?_
            exact ⟨[0], rfl, k0, st_eq (fr_cons (av_bool (by simp [hq1, hq2, hq3, hq4])) rfl) rfl⟩
        · iterate 14 (refine s_a tab_ok rfl ?_)
          refine tops_nil ?_
          refine way_then ?_
          exact ⟨[0], rfl, k0, st_eq (fr_cons (av_bool (by simp [hq1, hq2, hq3])) rfl) rfl⟩
      · iterate 19 (refine s_a tab_ok rfl ?_)
        refine tops_nil ?_
        refine way_then ?_
        exact ⟨[0], rfl, k0, st_eq (fr_cons (av_bool (by simp [hq1, hq2])) rfl) rfl⟩
    · iterate 25 (refine s_a tab_ok rfl ?_)
      refine tops_nil ?_
      refine way_then ?_
      exact ⟨[0], rfl, k0, st_eq (fr_cons (av_bool (by simp [hq1])) rfl) rfl⟩
  · refine w_norm [1, 40] rfl rfl ?_
    refine twp_cond _ rfl (fun h6 => ?_) (fun h6 => ?_)
    · replace hm := iteB_T h6 hm
      refine twp_rseq ?_
      refine s_a tab_ok rfl ?_
      refine tops_nil ?_
      refine w_norm [2] rfl rfl ?_
      refine twp_ret ?_
      refine way_thenRet ?_
      obtain rfl := Option.some.inj hm
      exact EndsS.one _ rfl (.d _) (.refl _)
    · replace hm := iteB_F h6 hm
      refine twp_skip ?_
      refine way_then ?_
      refine w_norm [1] rfl rfl ?_
      refine twp_seq ?_
      refine twp_rseq ?_
      iterate 2 (refine s_a tab_ok rfl ?_)
      refine s_x rfl rfl (x_len tab_ok rfl rfl rfl) ?_
      iterate 2 (refine s_a tab_ok rfl ?_)
      refine s_x rfl rfl (x_len tab_ok rfl rfl rfl) ?_
      refine s_a tab_ok rfl ?_
      refine tops_nil ?_
      refine w_norm [1, 47] rfl rfl ?_
      refine twp_cond _ rfl (fun h7 => ?_) (fun h7 => ?_)
      · replace hm := iteN_T h7 hm
        refine twp_rseq ?_
        refine s_a tab_ok rfl ?_
        refine tops_nil ?_
        refine w_norm [2] rfl rfl ?_
        refine twp_ret ?_
        refine way_thenRet ?_
        obtain rfl := Option.some.inj hm
        exact EndsS.one _ rfl (.d _) (.refl _)
      · replace hm := iteN_F h7 hm
        refine twp_skip ?_
        refine way_then ?_
        refine w_norm [1] rfl rfl ?_
        refine w_joinS hm (fun _ => ([] : Fr)) (fun _ => ([] : List (Nat × Blk))) [] [1] rfl (fun z8 hm hz8 => ?_) (fun j hm => ?_)
        · refine twp_rseq ?_
          iterate 2 (refine s_a tab_ok rfl ?_)
          refine s_x rfl rfl (x_len tab_ok rfl rfl rfl) ?_
          refine s_a tab_ok rfl ?_
          refine tops_nil ?_
          refine w_norm [1, 49, 50, 51] rfl rfl ?_
          refine twp_block ?_
          refine w_loop hm (fun x10 => ([(51, .d (.int .i64 x10))] : Fr)) (fun x10 => ([] : List (Nat × Blk))) [51] [1, 49, 50] [0] rfl k0 rfl rfl rfl rfl rfl (fun x10 z11 hm hz11 => ?_)
          refine w_norm [1, 49, 50, 51] rfl rfl ?_
          refine twp_rseq ?_
          refine s_a tab_ok rfl ?_
          refine tops_nil ?_
          refine w_norm [1, 49, 50, 51, 52] rfl rfl ?_
          refine twp_seq ?_
          refine twp_cond _ rfl (fun h12 => ?_) (fun h12 => ?_)
          · replace hm := ite_T h12 hm
            refine twp_skip ?_
            refine way_then ?_
            refine w_norm [1, 49, 50, 51] rfl rfl ?_
            refine twp_seq ?_
            refine twp_block ?_
            refine twp_rseq ?_
            refine s_a tab_ok rfl ?_
            obtain ⟨e13, he13, hm⟩ := get_inv hm
            refine s_x rfl rfl (x_ix tab_ok rfl rfl rfl rfl he13) ?_
            iterate 3 (refine s_a tab_ok rfl ?_)
            refine tops_nil ?_
            refine w_norm [1, 3, 4, 49, 50, 51] rfl rfl ?_
            refine w_joinM hm (fun x14 => ([(89, .d (.bool (x14)))] : Fr)) (fun x14 => ([] : List (Nat × Blk))) [89] [1, 49, 50, 51] rfl (fun z15 hm => ?_) (fun x14 hm => ?_)
            · refine twp_draw follows  ?_
              iterate 2 (refine d_a [0] tab_ok rfl ?_)
              refine d_b [0] tab_ok rfl (fun q16 hq16 => ?_)
              cases q16
              · replace hm := ite_F hq16 hm
                iterate 2 (refine d_a [0] tab_ok rfl ?_)
                refine d_b [0] tab_ok rfl (fun q17 hq17 => ?_)
                cases q17
                · replace hm := ite_F hq17 hm
                  iterate 14 (refine d_a [0] tab_ok rfl ?_)
                  obtain ⟨e18, he18, hm⟩ := get_inv hm
                  refine d_x [0] rfl rfl (x_ix tab_ok rfl rfl rfl rfl he18) ?_
                  iterate 3 (refine d_a [0] tab_ok rfl ?_)
                  refine d_b [0] tab_ok rfl (fun q19 hq19 => ?_)
                  cases q19
                  · replace hm := ite_F hq19 hm
                    iterate 3 (refine d_a [0] tab_ok rfl ?_)
                    obtain ⟨e20, he20, hm⟩ := get_inv hm
                    refine d_x [0] rfl rfl (x_ix tab_ok rfl rfl rfl rfl he20) ?_
                    iterate 5 (refine d_a [0] tab_ok rfl ?_)
                    refine d_tail ?_ (by kernel_rfl)
                    refine tops_nil ?_
                    refine way_then ?_
                    exact ⟨_, [0], (Option.some.inj hm).symm, rfl, k0, rfl⟩
                  · replace hm := ite_T hq19 hm
                    iterate 9 (refine d_a [0] tab_ok rfl ?_)
                    refine d_tail ?_ (by kernel_rfl)
                    refine tops_nil ?_
                    refine way_then ?_
                    exact ⟨_, [0], (Option.some.inj hm).symm, rfl, k0, rfl⟩
                · replace hm := ite_T hq17 hm
                  iterate 3 (refine d_a [0] tab_ok rfl ?_)
                  obtain ⟨g21, hm⟩ := guard_inv hm
                  refine d_x [0] rfl rfl (x_ar rfl rfl rfl rfl g21) ?_
                  obtain ⟨e22, he22, hm⟩ := get_inv hm
                  refine d_x [0] rfl rfl (x_ix tab_ok rfl rfl rfl rfl he22) ?_
                  iterate 5 (refine d_a [0] tab_ok rfl ?_)
                  refine d_b [0] tab_ok rfl (fun q23 hq23 => ?_)
                  cases q23
                  · replace hm := ite_F hq23 hm
                    iterate 3 (refine d_a [0] tab_ok rfl ?_)
                    obtain ⟨e24, he24, hm⟩ := get_inv hm
                    refine d_x [0] rfl rfl (x_ix tab_ok rfl rfl rfl rfl he24) ?_
                    iterate 3 (refine d_a [0] tab_ok rfl ?_)
                    refine d_b [0] tab_ok rfl (fun q25 hq25 => ?_)
                    cases q25
                    · replace hm := ite_F hq25 hm
                      iterate 3 (refine d_a [0] tab_ok rfl ?_)
                      obtain ⟨e26, he26, hm⟩ := get_inv hm
                      refine d_x [0] rfl rfl (x_ix tab_ok rfl rfl rfl rfl he26) ?_
                      iterate 5 (refine d_a [0] tab_ok rfl ?_)
                      refine d_tail ?_ (by kernel_rfl)
                      refine tops_nil ?_
                      refine way_then ?_
                      exact ⟨_, [0], (Option.some.inj hm).symm, rfl, k0, rfl⟩
                    · replace hm := ite_T hq25 hm
                      iterate 9 (refine d_a [0] tab_ok rfl ?_)
                      refine d_tail ?_ (by kernel_rfl)
                      refine tops_nil ?_
                      refine way_then ?_
                      exact ⟨_, [0], (Option.some.inj hm).symm, rfl, k0, rfl⟩
                  · replace hm := ite_T hq23 hm
                    iterate 17 (refine d_a [0] tab_ok rfl ?_)
                    refine d_tail ?_ (by kernel_rfl)
                    refine tops_nil ?_
                    refine way_then ?_
                    exact ⟨_, [0], (Option.some.inj hm).symm, rfl, k0, rfl⟩
              · replace hm := ite_T hq16 hm
                iterate 31 (refine d_a [0] tab_ok rfl ?_)
                refine d_tail ?_ (by kernel_rfl)
                refine tops_nil ?_
                refine way_then ?_
                exact ⟨_, [0], (Option.some.inj hm).symm, rfl, k0, rfl⟩
            · refine w_norm [1, 49, 50, 51, 89] rfl rfl ?_
              refine twp_cond _ rfl (fun h27 => ?_) (fun h27 => ?_)
              · replace hm := iteB_T h27 hm
                refine twp_rseq ?_
                refine s_a tab_ok rfl ?_
                refine tops_nil ?_
                refine w_norm [2] rfl rfl ?_
                refine twp_ret ?_
                refine way_blockRet ?_
                refine way_thenRet ?_
                obtain ⟨v28, hm, hz⟩ := inr_inv hm
                rw [hz11 _ hz] at hm
                refine way_thenRet ?_
                refine way_blockRet ?_
                obtain ⟨v29, hm, hz⟩ := inr_inv hm
                rw [hz8 _ hz] at hm
                refine way_thenRet ?_
                obtain rfl := Option.some.inj hm
                exact EndsS.one _ rfl (.d _) (.refl _)
              · replace hm := iteB_F h27 hm
                refine twp_skip ?_
                refine way_block ?_
                refine way_then ?_
                refine w_norm [1, 49, 50, 51] rfl rfl ?_
                refine twp_region ?_
                obtain ⟨g30, hm⟩ := guard_inv hm
                refine s_x rfl rfl (x_ar rfl rfl rfl rfl g30) ?_
                refine s_a tab_ok rfl ?_
                refine tops_nil ?_
                refine way_then ?_
                exact ⟨_, [0], (Option.some.inj hm).symm, rfl, k0, rfl⟩
          · replace hm := ite_F h12 hm
            refine twp_exit ?_
            refine way_thenExit ?_
            obtain ⟨v31, hm, hz⟩ := inr_inv hm
            rw [hz11 _ hz] at hm
            refine way_thenExit ?_
            refine way_here ?_
            refine way_then ?_
            exact ⟨_, [0], (Option.some.inj hm).symm, rfl, k0, rfl⟩
        · refine w_norm [1] rfl rfl ?_
          refine w_joinS hm (fun _ => ([] : Fr)) (fun _ => ([] : List (Nat × Blk))) [] [1] rfl (fun z32 hm hz32 => ?_) (fun j hm => ?_)
          · refine twp_rseq ?_
            iterate 2 (refine s_a tab_ok rfl ?_)
            refine s_x rfl rfl (x_len tab_ok rfl rfl rfl) ?_
            refine s_a tab_ok rfl ?_
            refine tops_nil ?_
            refine w_norm [1, 92, 93, 94] rfl rfl ?_
            refine twp_block ?_
            refine w_loop hm (fun x34 => ([(94, .d (.int .i64 x34))] : Fr)) (fun x34 => ([] : List (Nat × Blk))) [94] [1, 92, 93] [0] rfl k0 rfl rfl rfl rfl rfl (fun x34 z35 hm hz35 => ?_)
            refine w_norm [1, 92, 93, 94] rfl rfl ?_
            refine twp_rseq ?_
            refine s_a tab_ok rfl ?_
            refine tops_nil ?_
            refine w_norm [1, 92, 93, 94, 95] rfl rfl ?_
            refine twp_seq ?_
            refine twp_cond _ rfl (fun h36 => ?_) (fun h36 => ?_)
            · replace hm := ite_T h36 hm
              refine twp_skip ?_
              refine way_then ?_
              refine w_norm [1, 92, 93, 94] rfl rfl ?_
              refine twp_seq ?_
              refine twp_block ?_
              refine twp_rseq ?_
              obtain ⟨e37, he37, hm⟩ := get_inv hm
              refine s_x rfl rfl (x_ix tab_ok rfl rfl rfl rfl he37) ?_
              refine s_a tab_ok rfl ?_
              refine s_al 1 rfl rfl zero50 rfl ?_
              refine s_wkb 1 [none, none, none, some 3, some 2, some 1, none, none, some 3, some 2, some 1, some 2, some 1, some 2] rfl rfl ?_
              refine s_a tab_ok rfl ?_
              refine tops_nil ?_
              refine w_norm [1, 6, 92, 93, 94] rfl rfl ?_
              refine w_joinM hm (fun x38 => ([(122, .d (.bool (x38)))] : Fr)) (fun x38 => ([] : List (Nat × Blk))) [122] [1, 92, 93, 94] rfl (fun z39 hm => ?_) (fun x38 hm => ?_)
              · refine twp_region ?_
                iterate 2 (refine s_a tab_ok rfl ?_)
                obtain ⟨r40, hr40, hm⟩ := bind_inv hm
                refine s_x rfl rfl (rd_callRN rfl rfl (snaps_cons (.d _) (snaps_cons (.d _) snaps_nil)) (ref16_right_c hr40)) ?_
                refine s_a tab_ok rfl ?_
                refine s_b tab_ok rfl (fun q41 hq41 => ?_)
                cases q41
                · replace hm := iteB_F hq41 hm
                  iterate 3 (refine s_a tab_ok rfl ?_)
                  obtain ⟨r42, hr42, hm⟩ := bind_inv hm
                  refine s_x rfl rfl (rd_callRN rfl rfl (snaps_cons (.d _) (snaps_cons (.d _) snaps_nil)) (ref16_settings_c hr42)) ?_
                  iterate 2 (refine s_a tab_ok rfl ?_)
                  refine s_b tab_ok rfl (fun q43 hq43 => ?_)
                  cases q43
                  · replace hm := iteB_F hq43 hm
                    iterate 3 (refine s_a tab_ok rfl ?_)
                    obtain ⟨r44, hr44, hm⟩ := bind_inv hm
                    refine s_x rfl rfl (rd_callRN rfl rfl (snaps_cons (.d _) (snaps_cons (.d _) snaps_nil)) (ref16_settings_c hr44)) ?_
                    iterate 2 (refine s_a tab_ok rfl ?_)
                    refine s_b tab_ok rfl (fun q45 hq45 => ?_)
                    cases q45
                    · replace hm := iteB_F hq45 hm
                      iterate 3 (refine s_a tab_ok rfl ?_)
                      obtain ⟨r46, hr46, hm⟩ := bind_inv hm
                      refine s_x rfl rfl (rd_callRN rfl rfl (snaps_cons (.d _) (snaps_cons (.d _) snaps_nil)) (ref16_settings_c hr46)) ?_
                      iterate 2 (refine s_a tab_ok rfl ?_)
                      refine tops_nil ?_
                      refine way_then ?_
                      exact ⟨_, [0, 1], (Option.some.inj hm).symm, rfl, k0, rfl⟩
                    · replace hm := iteB_T hq45 hm
                      iterate 6 (refine s_a tab_ok rfl ?_)
                      refine tops_nil ?_
                      refine way_then ?_
                      exact ⟨_, [0, 1], (Option.some.inj hm).symm, rfl, k0, rfl⟩
                  · replace hm := iteB_T hq43 hm
                    iterate 13 (refine s_a tab_ok rfl ?_)
                    refine tops_nil ?_
                    refine way_then ?_
                    exact ⟨_, [0, 1], (Option.some.inj hm).symm, rfl, k0, rfl⟩
                · replace hm := iteB_T hq41 hm
                  iterate 20 (refine s_a tab_ok rfl ?_)
                  refine tops_nil ?_
                  refine way_then ?_
                  exact ⟨_, [0, 1], (Option.some.inj hm).symm, rfl, k0, rfl⟩
              · refine w_norm [1, 92, 93, 94, 122] rfl rfl ?_
                refine twp_cond _ rfl (fun h47 => ?_) (fun h47 => ?_)
                · replace hm := iteB_T h47 hm
                  refine twp_rseq ?_
                  refine s_a tab_ok rfl ?_
                  refine tops_nil ?_
                  refine w_norm [2] rfl rfl ?_
                  refine twp_ret ?_
                  refine way_blockRet ?_
                  refine way_thenRet ?_
                  obtain ⟨v48, hm, hz⟩ := inr_inv hm
                  rw [hz35 _ hz] at hm
                  refine way_thenRet ?_
                  refine way_blockRet ?_
                  obtain ⟨v49, hm, hz⟩ := inr_inv hm
                  rw [hz32 _ hz] at hm
                  refine way_thenRet ?_
                  obtain rfl := Option.some.inj hm
                  exact EndsS.one _ rfl (.d _) (.refl _)
                · replace hm := iteB_F h47 hm
                  refine twp_skip ?_
                  refine way_block ?_
                  refine way_then ?_
                  refine w_norm [1, 92, 93, 94] rfl rfl ?_
                  refine twp_region ?_
                  obtain ⟨g50, hm⟩ := guard_inv hm
                  refine s_x rfl rfl (x_ar rfl rfl rfl rfl g50) ?_
                  refine s_a tab_ok rfl ?_
                  refine tops_nil ?_
                  refine way_then ?_
                  exact ⟨_, [0], (Option.some.inj hm).symm, rfl, k0, rfl⟩
            · replace hm := ite_F h36 hm
              refine twp_exit ?_
              refine way_thenExit ?_
              obtain ⟨v51, hm, hz⟩ := inr_inv hm
              rw [hz35 _ hz] at hm
              refine way_thenExit ?_
              refine way_here ?_
              refine way_then ?_
              exact ⟨_, [0], (Option.some.inj hm).symm, rfl, k0, rfl⟩
          · refine w_norm [1] rfl rfl ?_
            refine w_joinS hm (fun _ => ([] : Fr)) (fun _ => ([] : List (Nat × Blk))) [] [1] rfl (fun z52 hm hz52 => ?_) (fun j hm => ?_)
            · refine twp_rseq ?_
              iterate 2 (refine s_a tab_ok rfl ?_)
              refine s_x rfl rfl (x_len tab_ok rfl rfl rfl) ?_
              refine s_a tab_ok rfl ?_
              refine tops_nil ?_
              refine w_norm [1, 125, 126, 127] rfl rfl ?_
              refine twp_block ?_
              refine w_loop hm (fun x54 => ([(127, .d (.int .i64 x54))] : Fr)) (fun x54 => ([] : List (Nat × Blk))) [127] [1, 125, 126] [0] rfl k0 rfl rfl rfl rfl rfl (fun x54 z55 hm hz55 => ?_)
              refine w_norm [1, 125, 126, 127] rfl rfl ?_
              refine twp_rseq ?_
              refine s_a tab_ok rfl ?_
              refine tops_nil ?_
              refine w_norm [1, 125, 126, 127, 128] rfl rfl ?_
              refine twp_seq ?_
              refine twp_cond _ rfl (fun h56 => ?_) (fun h56 => ?_)
              · replace hm := ite_T h56 hm
                refine twp_skip ?_
                refine way_then ?_
                refine w_norm [1, 125, 126, 127] rfl rfl ?_
                refine twp_seq ?_
                refine twp_block ?_
                refine twp_rseq ?_
                obtain ⟨e57, he57, hm⟩ := get_inv hm
                refine s_x rfl rfl (x_ix tab_ok rfl rfl rfl rfl he57) ?_
                refine s_a tab_ok rfl ?_
                refine s_al 1 rfl rfl zero50 rfl ?_
                refine s_wkb 1 [none, none, none, some 3, some 2, some 1, none, none, some 3, some 2, some 1, some 2, some 1, some 2] rfl rfl ?_
                refine s_a tab_ok rfl ?_
                refine tops_nil ?_
                refine w_norm [1, 8, 125, 126, 127] rfl rfl ?_
                refine w_joinM hm (fun x58 => ([(152, .d (.bool (x58)))] : Fr)) (fun x58 => ([] : List (Nat × Blk))) [152] [1, 125, 126, 127] rfl (fun z59 hm => ?_) (fun x58 hm => ?_)
                · refine twp_region ?_
                  iterate 4 (refine s_a tab_ok rfl ?_)
                  obtain ⟨r60, hr60, hm⟩ := bind_inv hm
                  refine s_x rfl rfl (rd_callRN rfl rfl (snaps_cons (.d _) (snaps_cons (.d _) snaps_nil)) (ref16_agree_c hr60)) ?_
                  refine s_a tab_ok rfl ?_
                  refine s_b tab_ok rfl (fun q61 hq61 => ?_)
                  cases q61
                  · replace hm := iteB_F hq61 hm
                    iterate 4 (refine s_a tab_ok rfl ?_)
                    obtain ⟨r62, hr62, hm⟩ := bind_inv hm
                    refine s_x rfl rfl (rd_callRN rfl rfl (snaps_cons (.d _) (snaps_cons (.d _) snaps_nil)) (ref16_agree_c hr62)) ?_
                    iterate 2 (refine s_a tab_ok rfl ?_)
                    refine s_b tab_ok rfl (fun q63 hq63 => ?_)
                    cases q63
                    · replace hm := iteB_F hq63 hm
                      iterate 4 (refine s_a tab_ok rfl ?_)
                      obtain ⟨r64, hr64, hm⟩ := bind_inv hm
                      refine s_x rfl rfl (rd_callRN rfl rfl (snaps_cons (.d _) (snaps_cons (.d _) snaps_nil)) (ref16_agree_c hr64)) ?_
                      iterate 2 (refine s_a tab_ok rfl ?_)
                      refine tops_nil ?_
                      refine way_then ?_
                      exact ⟨_, [0, 1], (Option.some.inj hm).symm, rfl, k0, rfl⟩
                    · replace hm := iteB_T hq63 hm
                      iterate 7 (refine s_a tab_ok rfl ?_)
                      refine tops_nil ?_
                      refine way_then ?_
                      exact ⟨_, [0, 1], (Option.some.inj hm).symm, rfl, k0, rfl⟩
                  · replace hm := iteB_T hq61 hm
                    iterate 15 (refine s_a tab_ok rfl ?_)
                    refine tops_nil ?_
                    refine way_then ?_
                    exact ⟨_, [0, 1], (Option.some.inj hm).symm, rfl, k0, rfl⟩
                · refine w_norm [1, 125, 126, 127, 152] rfl rfl ?_
                  refine twp_cond _ rfl (fun h65 => ?_) (fun h65 => ?_)
                  · replace hm := iteB_T h65 hm
                    refine twp_rseq ?_
                    refine s_a tab_ok rfl ?_
                    refine tops_nil ?_
                    refine w_norm [2] rfl rfl ?_
                    refine twp_ret ?_
                    refine way_blockRet ?_
                    refine way_thenRet ?_
                    obtain ⟨v66, hm, hz⟩ := inr_inv hm
                    rw [hz55 _ hz] at hm
                    refine way_thenRet ?_
                    refine way_blockRet ?_
                    obtain ⟨v67, hm, hz⟩ := inr_inv hm
                    rw [hz52 _ hz] at hm
                    refine way_thenRet ?_
                    obtain rfl := Option.some.inj hm
                    exact EndsS.one _ rfl (.d _) (.refl _)
                  · replace hm := iteB_F h65 hm
                    refine twp_skip ?_
                    refine way_block ?_
                    refine way_then ?_
                    refine w_norm [1, 125, 126, 127] rfl rfl ?_
                    refine twp_region ?_
                    obtain ⟨g68, hm⟩ := guard_inv hm
                    refine s_x rfl rfl (x_ar rfl rfl rfl rfl g68) ?_
                    refine s_a tab_ok rfl ?_
                    refine tops_nil ?_
                    refine way_then ?_
                    exact ⟨_, [0], (Option.some.inj hm).symm, rfl, k0, rfl⟩
              · replace hm := ite_F h56 hm
                refine twp_exit ?_
                refine way_thenExit ?_
                obtain ⟨v69, hm, hz⟩ := inr_inv hm
                rw [hz55 _ hz] at hm
                refine way_thenExit ?_
                refine way_here ?_
                refine way_then ?_
                exact ⟨_, [0], (Option.some.inj hm).symm, rfl, k0, rfl⟩
            · refine w_norm [1] rfl rfl ?_
              refine w_joinS hm (fun _ => ([] : Fr)) (fun _ => ([] : List (Nat × Blk))) [] [] rfl (fun z70 hm hz70 => ?_) (fun j hm => ?_)
              · refine twp_rseq ?_
                iterate 2 (refine s_a tab_ok rfl ?_)
                refine s_x rfl rfl (x_len tab_ok rfl rfl rfl) ?_
                refine s_a tab_ok rfl ?_
                refine tops_nil ?_
                refine w_norm [1, 155, 156, 157] rfl rfl ?_
                refine twp_block ?_
                refine w_loop hm (fun x72 => ([(157, .d (.int .i64 x72))] : Fr)) (fun x72 => ([] : List (Nat × Blk))) [157] [1, 155, 156] [0] rfl k0 rfl rfl rfl rfl rfl (fun x72 z73 hm hz73 => ?_)
                refine w_norm [1, 155, 156, 157] rfl rfl ?_
                refine twp_rseq ?_
                refine s_a tab_ok rfl ?_
                refine tops_nil ?_
                refine w_norm [1, 155, 156, 157, 158] rfl rfl ?_
                refine twp_seq ?_
                refine twp_cond _ rfl (fun h74 => ?_) (fun h74 => ?_)
                · replace hm := ite_T h74 hm
                  refine twp_skip ?_
                  refine way_then ?_
                  refine w_norm [1, 155, 156, 157] rfl rfl ?_
                  refine twp_seq ?_
                  refine twp_block ?_
                  refine twp_rseq ?_
                  refine s_a tab_ok rfl ?_
                  obtain ⟨e75, he75, hm⟩ := get_inv hm
                  refine s_x rfl rfl (x_ix tab_ok rfl rfl rfl rfl he75) ?_
                  refine s_a tab_ok rfl ?_
                  refine s_al 1 rfl rfl zero50 rfl ?_
                  refine s_wkb 1 [none, none, none, some 3, some 2, some 1, none, none, some 3, some 2, some 1, some 2, some 1, some 2] rfl rfl ?_
                  iterate 2 (refine s_a tab_ok rfl ?_)
                  refine tops_nil ?_
                  refine w_norm [1, 9, 10, 155, 156, 157] rfl rfl ?_
                  refine twp_rseq ?_
                  iterate 3 (refine s_a tab_ok rfl ?_)
                  obtain ⟨r76, hr76, hm⟩ := bind_inv hm
                  refine s_x rfl rfl (rd_callRN rfl rfl (snaps_cons (.d _) (snaps_cons (.d _) snaps_nil)) (ref16_Find_c hr76)) ?_
                  iterate 2 (refine s_a tab_ok rfl ?_)
                  refine tops_nil ?_
                  refine w_norm [1, 155, 156, 157, 167] rfl rfl ?_
                  refine twp_cond _ rfl (fun h77 => ?_) (fun h77 => ?_)
                  · replace hm := iteN_T h77 hm
                    refine twp_rseq ?_
                    refine s_a tab_ok rfl ?_
                    refine tops_nil ?_
                    refine w_norm [2] rfl rfl ?_
                    refine twp_ret ?_
                    refine way_blockRet ?_
                    refine way_thenRet ?_
                    obtain ⟨v78, hm, hz⟩ := inr_inv hm
                    rw [hz73 _ hz] at hm
                    refine way_thenRet ?_
                    refine way_blockRet ?_
                    obtain ⟨v79, hm, hz⟩ := inr_inv hm
                    rw [hz70 _ hz] at hm
                    refine way_thenRet ?_
                    obtain rfl := Option.some.inj hm
                    exact EndsS.one _ rfl (.d _) (.refl _)
                  · replace hm := iteN_F h77 hm
                    refine twp_skip ?_
                    refine way_block ?_
                    refine way_then ?_
                    refine w_norm [1, 155, 156, 157] rfl rfl ?_
                    refine twp_region ?_
                    obtain ⟨g80, hm⟩ := guard_inv hm
                    refine s_x rfl rfl (x_ar rfl rfl rfl rfl g80) ?_
                    refine s_a tab_ok rfl ?_
                    refine tops_nil ?_
                    refine way_then ?_
                    exact ⟨_, [0], (Option.some.inj hm).symm, rfl, k0, rfl⟩
                · replace hm := ite_F h74 hm
                  refine twp_exit ?_
                  refine way_thenExit ?_
                  obtain ⟨v81, hm, hz⟩ := inr_inv hm
                  rw [hz73 _ hz] at hm
                  refine way_thenExit ?_
                  refine way_here ?_
                  refine way_then ?_
                  exact ⟨_, [0], (Option.some.inj hm).symm, rfl, k0, rfl⟩
              · refine w_norm [] rfl rfl ?_
                refine twp_rseq ?_
                refine s_a tab_ok rfl ?_
                refine tops_nil ?_
                refine w_norm [2] rfl rfl ?_
                refine twp_ret ?_
                obtain rfl := Option.some.inj hm
                exact EndsS.one _ rfl (.d _) (.refl _)

theorem ref21_fitsRoute_c {p0 : RouteState} {p1 : Int} {r : Bool} (hm : ref21_fitsRoute p0 p1 = some r) : RetN Try.prog 36 [p0.enc, .int .i64 p1] (.bool (r)) := by
  refine .unit (ret_bodyS callB36 Try.func36 rfl Try.ntmps36 rfl rfl (fun wX gX => ?_)) rfl
  unfold ref21_fitsRoute at hm
  refine w_norm [0, 1] rfl rfl ?_
  refine twp_rseq ?_
  refine s_bx 0 rfl rfl rfl ?_
  refine s_a tab_ok rfl ?_
  refine tops_nil ?_
  refine w_norm [1, 2] rfl rfl ?_
  refine twp_seq ?_
  refine twp_rseq ?_
  iterate 2 (refine s_a tab_ok rfl ?_)
  refine tops_nil ?_
  refine w_norm [1, 2, 6] rfl rfl ?_
  refine twp_block ?_
  refine w_joinM hm (fun x1 => ([(7, .d (.bool (x1)))] : Fr)) (fun x1 => ([] : List (Nat × Blk))) [7] [1, 2, 6] rfl (fun z2 hm => ?_) (fun x1 hm => ?_)
  · refine twp_rseq ?_
    iterate 2 (refine s_a tab_ok rfl ?_)
    refine tops_nil ?_
    refine w_norm [1, 2, 6, 7] rfl rfl ?_
    refine twp_cond _ rfl (fun h3 => ?_) (fun h3 => ?_)
    · replace hm := ite_T h3 hm
      refine twp_skip ?_
      refine way_then ?_
      exact ⟨_, [0], (Option.some.inj hm).symm, rfl, k0, rfl⟩
    · replace hm := ite_F h3 hm
      refine twp_rseq ?_
      iterate 2 (refine s_a tab_ok rfl ?_)
      refine tops_nil ?_
      refine w_norm [1, 2, 6, 7] rfl rfl ?_
      refine twp_cond _ rfl (fun h4 => ?_) (fun h4 => ?_)
      · replace hm := ite_T h4 hm
        refine twp_skip ?_
        refine way_then ?_
        exact ⟨_, [0], (Option.some.inj hm).symm, rfl, k0, rfl⟩
      · replace hm := ite_F h4 hm
        refine twp_region ?_
        iterate 2 (refine s_a tab_ok rfl ?_)
        refine tops_nil ?_
        refine way_then ?_
        exact ⟨_, [0], (Option.some.inj hm).symm, rfl, k0, rfl⟩
  · refine w_norm [1, 2, 6, 7] rfl rfl ?_
    refine twp_cond _ rfl (fun h5 => ?_) (fun h5 => ?_)
    · replace hm := iteB_T h5 hm
      refine w_cut [(4, .d (.bool (((decide (p0.rel = (0 : Int))) && (decide (p0.timer = (0 : Int)))))))] [4] [] rfl ?_ ?_
      · refine twp_region ?_
        iterate 3 (refine s_a tab_ok rfl ?_)
        refine s_b tab_ok rfl (fun q6 hq6 => ?_)
        cases q6
        · iterate 5 (refine s_a tab_ok rfl ?_)
          refine tops_nil ?_
          refine way_then ?_
          exact ⟨[0], rfl, k0, st_eq (fr_cons (av_bool (by simp [hq6])) rfl) rfl⟩
        · iterate 5 (refine s_a tab_ok rfl ?_)
          refine tops_nil ?_
          refine way_then ?_
          exact ⟨[0], rfl, k0, st_eq (fr_cons (av_bool (by simp [hq6])) rfl) rfl⟩
      · refine w_norm [4] rfl rfl ?_
        refine twp_ret ?_
        refine way_blockRet ?_
        refine way_thenRet ?_
        obtain rfl := Option.some.inj hm
        exact EndsS.one _ rfl (.d _) (.refl _)
    · replace hm := iteB_F h5 hm
      refine twp_rseq ?_
      iterate 2 (refine s_a tab_ok rfl ?_)
      refine tops_nil ?_
      refine w_norm [1, 2, 6, 19] rfl rfl ?_
      refine twp_cond _ rfl (fun h7 => ?_) (fun h7 => ?_)
      · replace hm := ite_T h7 hm
        refine w_joinM hm (fun x8 => ([(4, .d (.bool (x8)))] : Fr)) (fun x8 => ([] : List (Nat × Blk))) [4] [] rfl (fun z9 hm => ?_) (fun x8 hm => ?_)
        · refine twp_region ?_
          iterate 3 (refine s_a tab_ok rfl ?_)
          refine s_b tab_ok rfl (fun q10 hq10 => ?_)
          cases q10
          · replace hm := ite_F hq10 hm
            iterate 28 (refine s_a tab_ok rfl ?_)
            refine tops_nil ?_
            refine way_then ?_
            exact ⟨_, [0], (Option.some.inj hm).symm, rfl, k0, rfl⟩
          · replace hm := ite_T hq10 hm
            iterate 5 (refine s_a tab_ok rfl ?_)
            refine s_b tab_ok rfl (fun q11 hq11 => ?_)
            cases q11
            · replace hm := ite_F hq11 hm
              iterate 22 (refine s_a tab_ok rfl ?_)
              refine tops_nil ?_
              refine way_then ?_
              exact ⟨_, [0], (Option.some.inj hm).symm, rfl, k0, rfl⟩
            · replace hm := ite_T hq11 hm
              iterate 4 (refine s_a tab_ok rfl ?_)
              refine s_b tab_ok rfl (fun q12 hq12 => ?_)
              cases q12
              · replace hm := ite_F hq12 hm
                iterate 17 (refine s_a tab_ok rfl ?_)
                refine tops_nil ?_
                refine way_then ?_
                exact ⟨_, [0], (Option.some.inj hm).symm, rfl, k0, rfl⟩
              · replace hm := ite_T hq12 hm
                iterate 4 (refine s_a tab_ok rfl ?_)
                refine s_b tab_ok rfl (fun q13 hq13 => ?_)
                cases q13
                · replace hm := ite_F hq13 hm
                  iterate 12 (refine s_a tab_ok rfl ?_)
                  refine tops_nil ?_
                  refine way_then ?_
                  exact ⟨_, [0], (Option.some.inj hm).symm, rfl, k0, rfl⟩
                · replace hm := ite_T hq13 hm
                  iterate 3 (refine s_a tab_ok rfl ?_)
                  refine s_b tab_ok rfl (fun q14 hq14 => ?_)
                  cases q14
                  · replace hm := ite_F hq14 hm
                    iterate 3 (refine s_a tab_ok rfl ?_)
                    obtain ⟨g15, hm⟩ := guard_inv hm
                    refine s_x rfl rfl (x_ar rfl rfl rfl rfl g15) ?_
                    iterate 4 (refine s_a tab_ok rfl ?_)
                    refine tops_nil ?_
                    refine way_then ?_
                    exact ⟨_, [0], (Option.some.inj hm).symm, rfl, k0, rfl⟩
                  · replace hm := ite_T hq14 hm
                    iterate 8 (refine s_a tab_ok rfl ?_)
                    refine tops_nil ?_
                    refine way_then ?_
                    exact ⟨_, [0], (Option.some.inj hm).symm, rfl, k0, rfl⟩
        · refine w_norm [4] rfl rfl ?_
          refine twp_ret ?_
          refine way_blockRet ?_
          refine way_thenRet ?_
          obtain rfl := Option.some.inj hm
          exact EndsS.one _ rfl (.d _) (.refl _)
      · replace hm := ite_F h7 hm
        refine twp_rseq ?_
        iterate 2 (refine s_a tab_ok rfl ?_)
        refine tops_nil ?_
        refine w_norm [1, 2, 52] rfl rfl ?_
        refine twp_cond _ rfl (fun h16 => ?_) (fun h16 => ?_)
        · replace hm := ite_T h16 hm
          refine w_cut [(4, .d (.bool (((decide ((0 : Int) ≤ p0.rel)) && ((decide (p0.rel < p1)) && ((decide ((0 : Int) ≤ p0.timer)) && (decide (p0.timer < (12 : Int)))))))))] [4] [] rfl ?_ ?_
          · refine twp_region ?_
            iterate 3 (refine s_a tab_ok rfl ?_)
            refine s_b tab_ok rfl (fun q17 hq17 => ?_)
            cases q17
            · iterate 16 (refine s_a tab_ok rfl ?_)
              refine tops_nil ?_
              refine way_then ?_
              exact ⟨[0], rfl, k0, st_eq (fr_cons (av_bool (by simp [hq17])) rfl) rfl⟩
            · iterate 5 (refine s_a tab_ok rfl ?_)
              refine s_b tab_ok rfl (fun q18 hq18 => ?_)
              cases q18
              · iterate 10 (refine s_a tab_ok rfl ?_)
                refine tops_nil ?_
                refine way_then ?_
                exact ⟨[0], rfl, k0, st_eq (fr_cons (av_bool (by simp [hq17, hq18])) rfl) rfl⟩
              · iterate 4 (refine s_a tab_ok rfl ?_)
                refine s_b tab_ok rfl (fun q19 hq19 => ?_)
                cases q19
                · iterate 5 (refine s_a tab_ok rfl ?_)
                  refine tops_nil ?_
                  refine way_then ?_
                  exact ⟨[0], rfl, k0, st_eq (fr_cons (av_bool (by simp [hq17, hq18, hq19])) rfl) rfl⟩
                · iterate 5 (refine s_a tab_ok rfl ?_)
                  refine tops_nil ?_
                  refine way_then ?_
                  exact ⟨[0], rfl, k0, st_eq (fr_cons (av_bool (by simp [hq17, hq18, hq19])) rfl) rfl⟩
          · refine w_norm [4] rfl rfl ?_
            refine twp_ret ?_
            refine way_blockRet ?_
            refine way_thenRet ?_
            obtain rfl := Option.some.inj hm
            exact EndsS.one _ rfl (.d _) (.refl _)
        · replace hm := ite_F h16 hm
          refine twp_skip ?_
          refine way_block ?_
          refine way_then ?_
          refine w_norm [] rfl rfl ?_
          refine twp_rseq ?_
          refine s_a tab_ok rfl ?_
          refine tops_nil ?_
          refine w_norm [4] rfl rfl ?_
          refine twp_ret ?_
          obtain rfl := Option.some.inj hm
          exact EndsS.one _ rfl (.d _) (.refl _)

theorem ref21_Fits_c {p0 : Table} {p1 : Inter} {r : Bool} (hm : ref21_Fits p0 p1 = some r) : RetN Try.prog 13 [p0.enc, p1.enc] (.bool (r)) := by
  refine .unit (ret_bodyS callB13 Try.func13 rfl Try.ntmps13 rfl rfl (fun wX gX => ?_)) rfl
  unfold ref21_Fits at hm
  refine w_norm [0, 1] rfl rfl ?_
  refine twp_rseq ?_
  refine s_bx 0 rfl rfl rfl ?_
  refine s_bx 1 rfl rfl rfl ?_
  refine s_a tab_ok rfl ?_
  refine tops_nil ?_
  refine w_norm [2, 3] rfl rfl ?_
  refine twp_seq ?_
  refine w_joinM hm (fun x1 => ([(27, .d (.bool (x1)))] : Fr)) (fun x1 => ([] : List (Nat × Blk))) [27] [2, 3] rfl (fun z2 hm => ?_) (fun x1 hm => ?_)
  · refine twp_region ?_
    refine s_a tab_ok rfl ?_
    obtain ⟨r3, hr3, hm⟩ := bind_inv hm
    refine s_x rfl rfl (rd_callRN rfl rfl (snaps_cons (.d _) snaps_nil) (ref16_Check_c hr3)) ?_
    refine s_a tab_ok rfl ?_
    refine s_b tab_ok rfl (fun q4 hq4 => ?_)
    cases q4
    · replace hm := iteN_F hq4 hm
      iterate 2 (refine s_a tab_ok rfl ?_)
      refine s_x rfl rfl (x_len tab_ok rfl rfl rfl) ?_
      iterate 2 (refine s_a tab_ok rfl ?_)
      refine s_x rfl rfl (x_len tab_ok rfl rfl rfl) ?_
      iterate 2 (refine s_a tab_ok rfl ?_)
      refine s_b tab_ok rfl (fun q5 hq5 => ?_)
      cases q5
      · replace hm := iteN_F hq5 hm
        iterate 2 (refine s_a tab_ok rfl ?_)
        refine s_x rfl rfl (x_len tab_ok rfl rfl rfl) ?_
        iterate 2 (refine s_a tab_ok rfl ?_)
        refine s_x rfl rfl (x_len tab_ok rfl rfl rfl) ?_
        iterate 2 (refine s_a tab_ok rfl ?_)
        refine tops_nil ?_
        refine way_then ?_
        exact ⟨_, [0, 1], (Option.some.inj hm).symm, rfl, k0, rfl⟩
      · replace hm := iteN_T hq5 hm
        iterate 8 (refine s_a tab_ok rfl ?_)
        refine tops_nil ?_
        refine way_then ?_
        exact ⟨_, [0, 1], (Option.some.inj hm).symm, rfl, k0, rfl⟩
    · replace hm := iteN_T hq4 hm
      iterate 17 (refine s_a tab_ok rfl ?_)
      refine tops_nil ?_
      refine way_then ?_
      exact ⟨_, [0, 1], (Option.some.inj hm).symm, rfl, k0, rfl⟩
  · refine w_norm [2, 3, 27] rfl rfl ?_
    refine twp_cond _ rfl (fun h6 => ?_) (fun h6 => ?_)
    · replace hm := iteB_T h6 hm
      refine twp_rseq ?_
      refine s_a tab_ok rfl ?_
      refine tops_nil ?_
      refine w_norm [4] rfl rfl ?_
      refine twp_ret ?_
      refine way_thenRet ?_
      obtain rfl := Option.some.inj hm
      exact EndsS.one _ rfl (.d _) (.refl _)
    · replace hm := iteB_F h6 hm
      refine twp_skip ?_
      refine way_then ?_
      refine w_norm [2, 3] rfl rfl ?_
      refine w_joinS hm (fun _ => ([] : Fr)) (fun _ => ([] : List (Nat × Blk))) [] [3] rfl (fun z7 hm hz7 => ?_) (fun j hm => ?_)
      · refine twp_rseq ?_
        refine s_a tab_ok rfl ?_
        refine tops_nil ?_
        refine w_norm [2, 3, 5] rfl rfl ?_
        refine twp_block ?_
        refine w_loop hm (fun x9 => ([(5, .d (.int .i64 x9))] : Fr)) (fun x9 => ([] : List (Nat × Blk))) [5] [2, 3] [0, 1] rfl k0 rfl rfl rfl rfl rfl (fun x9 z10 hm hz10 => ?_)
        refine w_norm [2, 3, 5] rfl rfl ?_
        refine twp_seq ?_
        refine twp_rseq ?_
        iterate 3 (refine s_a tab_ok rfl ?_)
        refine s_x rfl rfl (x_len tab_ok rfl rfl rfl) ?_
        refine s_a tab_ok rfl ?_
        refine tops_nil ?_
        refine w_norm [2, 3, 5, 32] rfl rfl ?_
        refine twp_cond _ rfl (fun h11 => ?_) (fun h11 => ?_)
        · replace hm := ite_T h11 hm
          refine twp_skip ?_
          refine way_then ?_
          refine w_norm [2, 3, 5] rfl rfl ?_
          refine twp_seq ?_
          refine twp_block ?_
          refine twp_dseq follows  ?_
          iterate 3 (refine d_a [0, 1] tab_ok rfl ?_)
          obtain ⟨e12, he12, hm⟩ := get_inv hm
          refine d_x [0, 1] rfl rfl (x_ix tab_ok rfl rfl rfl rfl he12) ?_
          iterate 4 (refine d_a [0, 1] tab_ok rfl ?_)
          obtain ⟨e13, he13, hm⟩ := get_inv hm
          refine d_x [0, 1] rfl rfl (x_ix tab_ok rfl rfl rfl rfl he13) ?_
          iterate 2 (refine d_a [0, 1] tab_ok rfl ?_)
          refine d_x [0, 1] rfl rfl (x_len tab_ok rfl rfl rfl) ?_
          obtain ⟨r14, hr14, hm⟩ := bind_inv hm
          refine d_x [0, 1] rfl rfl (rd_callRN rfl rfl (snaps_cons (.d _) (snaps_cons (.d _) snaps_nil)) (ref21_fitsRoute_c hr14)) ?_
          refine d_a [0, 1] tab_ok rfl ?_
          refine d_tail ?_ (by kernel_rfl)
          refine tops_nil ?_
          refine w_norm [2, 3, 5, 48] rfl rfl ?_
          refine twp_cond _ rfl (fun h15 => ?_) (fun h15 => ?_)
          · replace hm := iteB_T h15 hm
            refine twp_rseq ?_
            refine s_a tab_ok rfl ?_
            refine tops_nil ?_
            refine w_norm [4] rfl rfl ?_
            refine twp_ret ?_
            refine way_blockRet ?_
            refine way_thenRet ?_
            obtain ⟨v16, hm, hz⟩ := inr_inv hm
            rw [hz10 _ hz] at hm
            refine way_thenRet ?_
            refine way_blockRet ?_
            obtain ⟨v17, hm, hz⟩ := inr_inv hm
            rw [hz7 _ hz] at hm
            refine way_thenRet ?_
            obtain rfl := Option.some.inj hm
            exact EndsS.one _ rfl (.d _) (.refl _)
          · replace hm := iteB_F h15 hm
            refine twp_skip ?_
            refine way_block ?_
            refine way_then ?_
            refine w_norm [2, 3, 5] rfl rfl ?_
            refine twp_region ?_
            refine s_a tab_ok rfl ?_
            obtain ⟨g18, hm⟩ := guard_inv hm
            refine s_x rfl rfl (x_ar rfl rfl rfl rfl g18) ?_
            refine s_a tab_ok rfl ?_
            refine tops_nil ?_
            refine way_then ?_
            exact ⟨_, [0, 1], (Option.some.inj hm).symm, rfl, k0, rfl⟩
        · replace hm := ite_F h11 hm
          refine twp_exit ?_
          refine way_thenExit ?_
          obtain ⟨v19, hm, hz⟩ := inr_inv hm
          rw [hz10 _ hz] at hm
          refine way_thenExit ?_
          refine way_here ?_
          refine way_then ?_
          exact ⟨_, [0, 1], (Option.some.inj hm).symm, rfl, k0, rfl⟩
      · refine w_norm [3] rfl rfl ?_
        refine w_joinS hm (fun _ => ([] : Fr)) (fun _ => ([] : List (Nat × Blk))) [] [] rfl (fun z20 hm hz20 => ?_) (fun j hm => ?_)
        · refine twp_rseq ?_
          refine s_a tab_ok rfl ?_
          refine tops_nil ?_
          refine w_norm [3, 6] rfl rfl ?_
          refine twp_block ?_
          refine w_loop hm (fun x22 => ([(6, .d (.int .i64 x22))] : Fr)) (fun x22 => ([] : List (Nat × Blk))) [6] [3] [0, 1] rfl k0 rfl rfl rfl rfl rfl (fun x22 z23 hm hz23 => ?_)
          refine w_norm [3, 6] rfl rfl ?_
          refine twp_seq ?_
          refine twp_rseq ?_
          iterate 3 (refine s_a tab_ok rfl ?_)
          refine s_x rfl rfl (x_len tab_ok rfl rfl rfl) ?_
          refine s_a tab_ok rfl ?_
          refine tops_nil ?_
          refine w_norm [3, 6, 53] rfl rfl ?_
          refine twp_cond _ rfl (fun h24 => ?_) (fun h24 => ?_)
          · replace hm := ite_T h24 hm
            refine twp_skip ?_
            refine way_then ?_
            refine w_norm [3, 6] rfl rfl ?_
            refine twp_seq ?_
            refine twp_block ?_
            refine w_joinM hm (fun x25 => ([(69, .d (.bool (x25)))] : Fr)) (fun x25 => ([] : List (Nat × Blk))) [69] [3, 6] rfl (fun z26 hm => ?_) (fun x25 hm => ?_)
            · refine twp_region ?_
              iterate 3 (refine s_a tab_ok rfl ?_)
              obtain ⟨e27, he27, hm⟩ := get_inv hm
              refine s_x rfl rfl (x_ix tab_ok rfl rfl rfl rfl he27) ?_
              iterate 2 (refine s_a tab_ok rfl ?_)
              refine s_b tab_ok rfl (fun q28 hq28 => ?_)
              cases q28
              · replace hm := iteN_F hq28 hm
                iterate 7 (refine s_a tab_ok rfl ?_)
                refine tops_nil ?_
                refine way_then ?_
                exact ⟨_, [0, 1], (Option.some.inj hm).symm, rfl, k0, rfl⟩
              · replace hm := iteN_T hq28 hm
                iterate 3 (refine s_a tab_ok rfl ?_)
                obtain ⟨e29, he29, hm⟩ := get_inv hm
                refine s_x rfl rfl (x_ix tab_ok rfl rfl rfl rfl he29) ?_
                iterate 3 (refine s_a tab_ok rfl ?_)
                refine tops_nil ?_
                refine way_then ?_
                exact ⟨_, [0, 1], (Option.some.inj hm).symm, rfl, k0, rfl⟩
            · refine w_norm [3, 6, 69] rfl rfl ?_
              refine twp_cond _ rfl (fun h30 => ?_) (fun h30 => ?_)
              · replace hm := iteB_T h30 hm
                refine twp_rseq ?_
                refine s_a tab_ok rfl ?_
                refine tops_nil ?_
                refine w_norm [4] rfl rfl ?_
                refine twp_ret ?_
                refine way_blockRet ?_
                refine way_thenRet ?_
                obtain ⟨v31, hm, hz⟩ := inr_inv hm
                rw [hz23 _ hz] at hm
                refine way_thenRet ?_
                refine way_blockRet ?_
                obtain ⟨v32, hm, hz⟩ := inr_inv hm
                rw [hz20 _ hz] at hm
                refine way_thenRet ?_
                obtain rfl := Option.some.inj hm
                exact EndsS.one _ rfl (.d _) (.refl _)
              · replace hm := iteB_F h30 hm
                refine twp_skip ?_
                refine way_block ?_
                refine way_then ?_
                refine w_norm [3, 6] rfl rfl ?_
                refine twp_region ?_
                refine s_a tab_ok rfl ?_
                obtain ⟨g33, hm⟩ := guard_inv hm
                refine s_x rfl rfl (x_ar rfl rfl rfl rfl g33) ?_
                refine s_a tab_ok rfl ?_
                refine tops_nil ?_
                refine way_then ?_
                exact ⟨_, [0, 1], (Option.some.inj hm).symm, rfl, k0, rfl⟩
          · replace hm := ite_F h24 hm
            refine twp_exit ?_
            refine way_thenExit ?_
            obtain ⟨v34, hm, hz⟩ := inr_inv hm
            rw [hz23 _ hz] at hm
            refine way_thenExit ?_
            refine way_here ?_
            refine way_then ?_
            exact ⟨_, [0, 1], (Option.some.inj hm).symm, rfl, k0, rfl⟩
        · refine w_norm [] rfl rfl ?_
          refine twp_rseq ?_
          refine s_a tab_ok rfl ?_
          refine tops_nil ?_
          refine w_norm [4] rfl rfl ?_
          refine twp_ret ?_
          obtain rfl := Option.some.inj hm
          exact EndsS.one _ rfl (.d _) (.refl _)

theorem ref02_Has_c {p0 : (List Int)} {p1 : Int} {r : Bool} (hm : ref02_Has p0 p1 = some r) : RetN Try.prog 52 [.sl 1 (p0.map (D.int .i64)), .int .i64 p1] (.bool (r)) := by
  refine .unit (ret_bodyS callB52 Try.func52 rfl Try.ntmps52 rfl rfl (fun wX gX => ?_)) rfl
  unfold ref02_Has at hm
  refine w_norm [0, 1] rfl rfl ?_
  refine twp_rseq ?_
  refine s_a tab_ok rfl ?_
  refine tops_nil ?_
  refine w_norm [0, 1] rfl rfl ?_
  refine w_joinS hm (fun _ => ([] : Fr)) (fun _ => ([] : List (Nat × Blk))) [] [] rfl (fun z1 hm hz1 => ?_) (fun j hm => ?_)
  · refine twp_rseq ?_
    refine s_a tab_ok rfl ?_
    refine tops_nil ?_
    refine w_norm [0, 1, 5] rfl rfl ?_
    refine twp_block ?_
    refine w_loop hm (fun i3 => ([(5, .d (.int .i64 i3))] : Fr)) (fun i3 => ([] : List (Nat × Blk))) [5] [0, 1] [] rfl k0 rfl rfl rfl rfl rfl (fun i3 z4 hm hz4 => ?_)
    refine w_norm [0, 1, 5] rfl rfl ?_
    refine twp_seq ?_
    refine twp_rseq ?_
    iterate 2 (refine s_a tab_ok rfl ?_)
    refine s_x rfl rfl (x_len tab_ok rfl rfl rfl) ?_
    refine s_a tab_ok rfl ?_
    refine tops_nil ?_
    refine w_norm [0, 1, 5, 9] rfl rfl ?_
    refine twp_cond _ rfl (fun h5 => ?_) (fun h5 => ?_)
    · replace hm := ite_T h5 hm
      refine twp_skip ?_
      refine way_then ?_
      refine w_norm [0, 1, 5] rfl rfl ?_
      refine twp_seq ?_
      refine twp_block ?_
      refine twp_rseq ?_
      iterate 2 (refine s_a tab_ok rfl ?_)
      obtain ⟨e6, he6, hm⟩ := get_inv hm
      refine s_x rfl rfl (x_ix tab_ok rfl rfl rfl rfl he6) ?_
      iterate 3 (refine s_a tab_ok rfl ?_)
      refine tops_nil ?_
      refine w_norm [0, 1, 5, 17] rfl rfl ?_
      refine twp_cond _ rfl (fun h7 => ?_) (fun h7 => ?_)
      · replace hm := ite_T h7 hm
        refine twp_rseq ?_
        refine s_a tab_ok rfl ?_
        refine tops_nil ?_
        refine w_norm [4] rfl rfl ?_
        refine twp_ret ?_
        refine way_blockRet ?_
        refine way_thenRet ?_
        obtain ⟨v8, hm, hz⟩ := inr_inv hm
        rw [hz4 _ hz] at hm
        refine way_thenRet ?_
        refine way_blockRet ?_
        obtain ⟨v9, hm, hz⟩ := inr_inv hm
        rw [hz1 _ hz] at hm
        refine way_thenRet ?_
        obtain rfl := Option.some.inj hm
        exact EndsS.one _ rfl (.d _) (.refl _)
      · replace hm := ite_F h7 hm
        refine twp_skip ?_
        refine way_block ?_
        refine way_then ?_
        refine w_norm [0, 1, 5] rfl rfl ?_
        refine twp_region ?_
        refine s_a tab_ok rfl ?_
        obtain ⟨g10, hm⟩ := guard_inv hm
        refine s_x rfl rfl (x_ar rfl rfl rfl rfl g10) ?_
        refine s_a tab_ok rfl ?_
        refine tops_nil ?_
        refine way_then ?_
        exact ⟨_, [], (Option.some.inj hm).symm, rfl, k0, rfl⟩
    · replace hm := ite_F h5 hm
      refine twp_exit ?_
      refine way_thenExit ?_
      obtain ⟨v11, hm, hz⟩ := inr_inv hm
      rw [hz4 _ hz] at hm
      refine way_thenExit ?_
      refine way_here ?_
      refine way_then ?_
      exact ⟨_, [], (Option.some.inj hm).symm, rfl, k0, rfl⟩
  · refine w_norm [] rfl rfl ?_
    refine twp_rseq ?_
    refine s_a tab_ok rfl ?_
    refine tops_nil ?_
    refine w_norm [4] rfl rfl ?_
    refine twp_ret ?_
    obtain rfl := Option.some.inj hm
    exact EndsS.one _ rfl (.d _) (.refl _)

theorem ref22_cancelled_c {p0 : Inputs} {p1 : Int} {r : Bool} (hm : ref22_cancelled p0 p1 = some r) : RetN Try.prog 31 [p0.enc, .int .i64 p1] (.bool (r)) := by
  refine .unit (ret_bodyS callB31 Try.func31 rfl Try.ntmps31 rfl rfl (fun wX gX => ?_)) rfl
  unfold ref22_cancelled at hm
  refine w_norm [0, 1] rfl rfl ?_
  refine twp_rseq ?_
  refine s_bx 0 rfl rfl rfl ?_
  refine s_a tab_ok rfl ?_
  refine tops_nil ?_
  refine w_norm [1, 2] rfl rfl ?_
  refine twp_rseq ?_
  iterate 3 (refine s_a tab_ok rfl ?_)
  obtain ⟨r1, hr1, hm⟩ := bind_inv hm
  refine s_x rfl rfl (rd_callRN rfl rfl (snaps_cons (.d _) (snaps_cons (.d _) snaps_nil)) (ref02_Has_c hr1)) ?_
  refine s_a tab_ok rfl ?_
  refine tops_nil ?_
  refine w_norm [4] rfl rfl ?_
  refine twp_ret ?_
  obtain rfl := Option.some.inj hm
  exact EndsS.one _ rfl (.d _) (.refl _)

theorem ref22_Occupied_c {p0 : Inputs} {p1 : Int} {r : Bool} (hm : ref22_Occupied p0 p1 = some r) : RetN Try.prog 18 [p0.enc, .int .i64 p1] (.bool (r)) := by
  refine .unit (ret_bodyS callB18 Try.func18 rfl Try.ntmps18 rfl rfl (fun wX gX => ?_)) rfl
  unfold ref22_Occupied at hm
  refine w_norm [0, 1] rfl rfl ?_
  refine twp_rseq ?_
  refine s_bx 0 rfl rfl rfl ?_
  refine s_a tab_ok rfl ?_
  refine tops_nil ?_
  refine w_norm [1, 2] rfl rfl ?_
  refine w_joinM hm (fun x1 => ([(4, .d (.bool (x1)))] : Fr)) (fun x1 => ([] : List (Nat × Blk))) [4] [] rfl (fun z2 hm => ?_) (fun x1 hm => ?_)
  · refine twp_region ?_
    iterate 2 (refine s_a tab_ok rfl ?_)
    refine s_b tab_ok rfl (fun q3 hq3 => ?_)
    cases q3
    · replace hm := ite_F hq3 hm
      iterate 3 (refine s_a tab_ok rfl ?_)
      refine s_x rfl rfl (x_len tab_ok rfl rfl rfl) ?_
      iterate 2 (refine s_a tab_ok rfl ?_)
      refine s_b tab_ok rfl (fun q4 hq4 => ?_)
      cases q4
      · replace hm := ite_F hq4 hm
        iterate 3 (refine s_a tab_ok rfl ?_)
        obtain ⟨e5, he5, hm⟩ := get_inv hm
        refine s_x rfl rfl (x_ix tab_ok rfl rfl rfl rfl he5) ?_
        iterate 3 (refine s_a tab_ok rfl ?_)
        refine tops_nil ?_
        refine way_then ?_
        exact ⟨_, [0], (Option.some.inj hm).symm, rfl, k0, rfl⟩
      · replace hm := ite_T hq4 hm
        iterate 7 (refine s_a tab_ok rfl ?_)
        refine tops_nil ?_
        refine way_then ?_
        exact ⟨_, [0], (Option.some.inj hm).symm, rfl, k0, rfl⟩
    · replace hm := ite_T hq3 hm
      iterate 14 (refine s_a tab_ok rfl ?_)
      refine tops_nil ?_
      refine way_then ?_
      exact ⟨_, [0], (Option.some.inj hm).symm, rfl, k0, rfl⟩
  · refine w_norm [4] rfl rfl ?_
    refine twp_ret ?_
    obtain rfl := Option.some.inj hm
    exact EndsS.one _ rfl (.d _) (.refl _)

theorem ref22_oneOccupied_c {p0 : Inputs} {p1 : (List Int)} {r : Bool} (hm : ref22_oneOccupied p0 p1 = some r) : RetN Try.prog 42 [p0.enc, .sl 1 (p1.map (D.int .i64))] (.bool (r)) := by
  refine .unit (ret_bodyS callB42 Try.func42 rfl Try.ntmps42 rfl rfl (fun wX gX => ?_)) rfl
  unfold ref22_oneOccupied at hm
  refine w_norm [0, 1] rfl rfl ?_
  refine twp_rseq ?_
  refine s_bx 0 rfl rfl rfl ?_
  refine s_a tab_ok rfl ?_
  refine tops_nil ?_
  refine w_norm [1, 2] rfl rfl ?_
  refine w_joinS hm (fun _ => ([] : Fr)) (fun _ => ([] : List (Nat × Blk))) [] [] rfl (fun z1 hm hz1 => ?_) (fun j hm => ?_)
  · refine twp_rseq ?_
    refine s_a tab_ok rfl ?_
    refine tops_nil ?_
    refine w_norm [1, 2, 5] rfl rfl ?_
    refine twp_block ?_
    refine w_loop hm (fun i3 => ([(5, .d (.int .i64 i3))] : Fr)) (fun i3 => ([] : List (Nat × Blk))) [5] [1, 2] [0] rfl k0 rfl rfl rfl rfl rfl (fun i3 z4 hm hz4 => ?_)
    refine w_norm [1, 2, 5] rfl rfl ?_
    refine twp_seq ?_
    refine twp_rseq ?_
    iterate 2 (refine s_a tab_ok rfl ?_)
    refine s_x rfl rfl (x_len tab_ok rfl rfl rfl) ?_
    refine s_a tab_ok rfl ?_
    refine tops_nil ?_
    refine w_norm [1, 2, 5, 9] rfl rfl ?_
    refine twp_cond _ rfl (fun h5 => ?_) (fun h5 => ?_)
    · replace hm := ite_T h5 hm
      refine twp_skip ?_
      refine way_then ?_
      refine w_norm [1, 2, 5] rfl rfl ?_
      refine twp_seq ?_
      refine twp_block ?_
      refine twp_dseq follows  ?_
      iterate 3 (refine d_a [0] tab_ok rfl ?_)
      obtain ⟨e6, he6, hm⟩ := get_inv hm
      refine d_x [0] rfl rfl (x_ix tab_ok rfl rfl rfl rfl he6) ?_
      refine d_a [0] tab_ok rfl ?_
      obtain ⟨r7, hr7, hm⟩ := bind_inv hm
      refine d_x [0] rfl rfl (rd_callRN rfl rfl (snaps_cons (.d _) (snaps_cons (.d _) snaps_nil)) (ref22_Occupied_c hr7)) ?_
      refine d_tail ?_ (by kernel_rfl)
      refine tops_nil ?_
      refine w_norm [1, 2, 5, 17] rfl rfl ?_
      refine twp_cond _ rfl (fun h8 => ?_) (fun h8 => ?_)
      · replace hm := iteB_T h8 hm
        refine twp_rseq ?_
        refine s_a tab_ok rfl ?_
        refine tops_nil ?_
        refine w_norm [4] rfl rfl ?_
        refine twp_ret ?_
        refine way_blockRet ?_
        refine way_thenRet ?_
        obtain ⟨v9, hm, hz⟩ := inr_inv hm
        rw [hz4 _ hz] at hm
        refine way_thenRet ?_
        refine way_blockRet ?_
        obtain ⟨v10, hm, hz⟩ := inr_inv hm
        rw [hz1 _ hz] at hm
        refine way_thenRet ?_
        obtain rfl := Option.some.inj hm
        exact EndsS.one _ rfl (.d _) (.refl _)
      · replace hm := iteB_F h8 hm
        refine twp_skip ?_
        refine way_block ?_
        refine way_then ?_
        refine w_norm [1, 2, 5] rfl rfl ?_
        refine twp_region ?_
        refine s_a tab_ok rfl ?_
        obtain ⟨g11, hm⟩ := guard_inv hm
        refine s_x rfl rfl (x_ar rfl rfl rfl rfl g11) ?_
        refine s_a tab_ok rfl ?_
        refine tops_nil ?_
        refine way_then ?_
        exact ⟨_, [0], (Option.some.inj hm).symm, rfl, k0, rfl⟩
    · replace hm := ite_F h5 hm
      refine twp_exit ?_
      refine way_thenExit ?_
      obtain ⟨v12, hm, hz⟩ := inr_inv hm
      rw [hz4 _ hz] at hm
      refine way_thenExit ?_
      refine way_here ?_
      refine way_then ?_
      exact ⟨_, [0], (Option.some.inj hm).symm, rfl, k0, rfl⟩
  · refine w_norm [] rfl rfl ?_
    refine twp_rseq ?_
    refine s_a tab_ok rfl ?_
    refine tops_nil ?_
    refine w_norm [4] rfl rfl ?_
    refine twp_ret ?_
    obtain rfl := Option.some.inj hm
    exact EndsS.one _ rfl (.d _) (.refl _)

end Go.Proofs.Ytkhdhopgiooloaa

set_option maxHeartbeats 8000000
set_option linter.unusedSimpArgs false
set_option linter.unusedVariables false
set_option maxRecDepth 20000
namespace Go.Proofs.Ytkhdhopgiooloaa
open Go Go.TL

theorem ref16_less_c {p0 : Setting} {p1 : Setting} {r : Bool} (hm : ref16_less p0 p1 = some r) : RetN Try.prog 65 [p0.enc, p1.enc] (.bool (r)) := by
  refine .unit (ret_bodyS callB65 Try.func65 rfl Try.ntmps65 rfl rfl (fun wX gX => ?_)) rfl
  unfold ref16_less at hm
  refine w_norm [0, 1] rfl rfl ?_
  refine twp_rseq ?_
  refine s_bx 0 rfl rfl rfl ?_
  refine s_bx 1 rfl rfl rfl ?_
  refine s_a tab_ok rfl ?_
  refine tops_nil ?_
  refine w_norm [2, 3] rfl rfl ?_
  refine w_cut [(4, .d (.bool (((decide (p0.el < p1.el)) || ((decide (p0.el = p1.el)) && (decide (p0.pos < p1.pos)))))))] [4] [] rfl ?_ ?_
  · refine twp_region ?_
    iterate 5 (refine s_a tab_ok rfl ?_)
    refine s_b tab_ok rfl (fun q1 hq1 => ?_)
    cases q1
    · iterate 5 (refine s_a tab_ok rfl ?_)
      refine s_b tab_ok rfl (fun q2 hq2 => ?_)
      cases q2
      · iterate 8 (refine s_a tab_ok rfl ?_)
        refine tops_nil ?_
        refine way_then ?_
        exact ⟨[0, 1], rfl, k0, st_eq (fr_cons (av_bool (by simp [hq1, hq2])) rfl) rfl⟩
      · iterate 8 (refine s_a tab_ok rfl ?_)
        refine tops_nil ?_
        refine way_then ?_
        exact ⟨[0, 1], rfl, k0, st_eq (fr_cons (av_bool (by simp [hq1, hq2])) rfl) rfl⟩
    · iterate 14 (refine s_a tab_ok rfl ?_)
      refine tops_nil ?_
      refine way_then ?_
      exact ⟨[0, 1], rfl, k0, st_eq (fr_cons (av_bool (by simp [hq1])) rfl) rfl⟩
  · refine w_norm [4] rfl rfl ?_
    refine twp_ret ?_
    obtain rfl := Option.some.inj hm
    exact EndsS.one _ rfl (.d _) (.refl _)

theorem ref16_Settings_c {p0 : Route} {r : (List Setting)} (hm : ref16_Settings p0 = some r) : RetD Try.prog 43 [p0.enc] (.sl 2 (r.map Setting.enc)) := by
  refine .of (mv := fun _ => false) (ret_bodyS callB43 Try.func43 rfl Try.ntmps43 rfl rfl (fun wX gX => ?_))
  unfold ref16_Settings at hm
  refine w_norm [0] rfl rfl ?_
  refine twp_rseq ?_
  refine s_bx 0 rfl rfl rfl ?_
  refine s_a tab_ok rfl ?_
  refine tops_nil ?_
  refine w_norm [1] rfl rfl ?_
  refine twp_rseq ?_
  refine s_nilO (f := Setting.enc) 1 43 2 rfl rfl rfl ?_
  refine s_nilO (f := Setting.enc) 2 43 2 rfl rfl rfl ?_
  refine tops_nil ?_
  refine w_norm [1, 3, 4] rfl rfl ?_
  refine twp_rseq ?_
  iterate 3 (refine s_a tab_ok rfl ?_)
  obtain ⟨g1, hm⟩ := guard_inv hm
  refine s_app (f := Setting.enc) p0.points tab_ok rfl rfl zero43 rfl rfl rfl rfl rfl (fun h => absurd h (Nat.not_lt_zero _)) rfl src_d g1 rfl rfl ?_
  refine s_a tab_ok rfl ?_
  refine tops_nil ?_
  refine w_norm [1, 3, 4] rfl rfl ?_
  refine twp_rseq ?_
  iterate 3 (refine s_a tab_ok rfl ?_)
  obtain ⟨g2, hm⟩ := guard_inv hm
  refine s_app (f := Setting.enc) p0.overPoints tab_ok rfl rfl zero43 rfl rfl rfl rfl rfl (fun h => absurd h (Nat.not_lt_zero _)) rfl src_d g2 rfl rfl ?_
  refine s_a tab_ok rfl ?_
  refine tops_nil ?_
  refine w_norm [1, 3, 4] rfl rfl ?_
  refine twp_rseq ?_
  iterate 3 (refine s_a tab_ok rfl ?_)
  obtain ⟨g3, hm⟩ := guard_inv hm
  refine s_app (f := Setting.enc) p0.flank tab_ok rfl rfl zero43 rfl rfl rfl rfl rfl (fun h => absurd h (Nat.not_lt_zero _)) rfl src_d g3 rfl rfl ?_
  refine s_a tab_ok rfl ?_
  refine tops_nil ?_
  refine w_norm [3, 4] rfl rfl ?_
  refine twp_block ?_
  refine w_loop hm (fun b5 => ([(3, .msl 0 2 0 (((([] : List Setting) ++ p0.points) ++ p0.overPoints) ++ p0.flank).length), (4, .msl 1 2 0 b5.length)] : Fr)) (fun b5 => ([(1, .flat 43 2 (b5.map Setting.enc))] : List (Nat × Blk))) [3, 4] [] [1, 2] rfl k0 rfl rfl rfl rfl rfl (fun b5 z6 hm hz6 => ?_)
  refine w_norm [3, 4] rfl rfl ?_
  refine twp_block ?_
  refine twp_rseq ?_
  refine s_a tab_ok rfl ?_
  refine tops_nil ?_
  refine w_norm [3, 4, 5] rfl rfl ?_
  refine w_joinM hm (fun found7 => ([(5, .d (.int .i64 found7))] : Fr)) (fun found7 => ([] : List (Nat × Blk))) [5] [3, 4] rfl (fun z8 hm => ?_) (fun found7 hm => ?_)
  · refine twp_rseq ?_
    iterate 3 (refine s_a tab_ok rfl ?_)
    refine tops_nil ?_
    refine w_norm [3, 4, 5, 20, 21, 22] rfl rfl ?_
    refine twp_block ?_
    refine w_loop hm (fun (found11, x12) => ([(5, .d (.int .i64 found11)), (22, .d (.int .i64 x12))] : Fr)) (fun (found11, x12) => ([] : List (Nat × Blk))) [5, 22] [3, 4, 20, 21] [0, 1] rfl k0 rfl rfl rfl rfl rfl (fun s z13 hm hz13 => ?_)
    obtain ⟨found11, x12⟩ := s
    refine w_norm [3, 4, 5, 20, 21, 22] rfl rfl ?_
    refine twp_rseq ?_
    refine s_a tab_ok rfl ?_
    refine tops_nil ?_
    refine w_norm [3, 4, 5, 20, 21, 22, 23] rfl rfl ?_
    refine twp_seq ?_
    refine twp_cond _ rfl (fun h14 => ?_) (fun h14 => ?_)
    · replace hm := ite_T h14 hm
      refine twp_skip ?_
      refine way_then ?_
      refine w_norm [3, 4, 5, 20, 21, 22] rfl rfl ?_
      refine twp_seq ?_
      refine twp_block ?_
      refine twp_rseq ?_
      refine s_a tab_ok rfl ?_
      obtain ⟨e15, he15, hm⟩ := get_inv hm
      refine s_x rfl rfl (x_ixo tab_ok rfl rfl rfl rfl he15 rfl) ?_
      refine s_x rfl rfl (x_ldo tab_ok rfl rfl rfl rfl he15.2 rfl) ?_
      refine s_al 2 rfl rfl zero43 rfl ?_
      iterate 2 (refine s_a tab_ok rfl ?_)
      refine tops_nil ?_
      refine w_norm [3, 4, 5, 6, 7, 20, 21, 22] rfl rfl ?_
      refine w_joinM hm (fun x16 => ([(51, .d (.bool (x16)))] : Fr)) (fun x16 => ([] : List (Nat × Blk))) [51] [3, 4, 5, 6, 20, 21, 22] rfl (fun z17 hm => ?_) (fun x16 hm => ?_)
      · refine twp_draw follows  ?_
        iterate 3 (refine d_a [0, 1, 2] tab_ok rfl ?_)
        refine d_b [0, 1, 2] tab_ok rfl (fun q18 hq18 => ?_)
        cases q18
        · replace hm := ite_F hq18 hm
          iterate 3 (refine d_a [0, 1, 2] tab_ok rfl ?_)
          obtain ⟨g19, hm⟩ := guard_inv hm
          refine d_x [0, 1, 2] rfl rfl (x_ar rfl rfl rfl rfl g19) ?_
          obtain ⟨e20, he20, hm⟩ := get_inv hm
          refine d_x [0, 1, 2] rfl rfl (x_ixo tab_ok rfl rfl rfl rfl he20 rfl) ?_
          refine d_x [0, 1, 2] rfl rfl (x_ldo tab_ok rfl rfl rfl rfl he20.2 rfl) ?_
          refine d_a [0, 1, 2] tab_ok rfl ?_
          obtain ⟨r21, hr21, hm⟩ := bind_inv hm
          refine d_x [0, 1, 2] rfl rfl (rd_callRN rfl rfl (snaps_cons (.d _) (snaps_cons (.d _) snaps_nil)) (ref16_less_c hr21)) ?_
          refine d_a [0, 1, 2] tab_ok rfl ?_
          refine d_b [0, 1, 2] tab_ok rfl (fun q22 hq22 => ?_)
          cases q22
          · replace hm := iteB_F hq22 hm
            iterate 11 (refine d_a [0, 1, 2] tab_ok rfl ?_)
            refine d_tail ?_ (by kernel_rfl)
            refine tops_nil ?_
            refine way_then ?_
            exact ⟨_, [0, 1, 2], (Option.some.inj hm).symm, rfl, k0, rfl⟩
          · replace hm := iteB_T hq22 hm
            iterate 2 (refine d_a [0, 1, 2] tab_ok rfl ?_)
            refine d_b [0, 1, 2] tab_ok rfl (fun q23 hq23 => ?_)
            cases q23
            · replace hm := ite_F hq23 hm
              iterate 3 (refine d_a [0, 1, 2] tab_ok rfl ?_)
              obtain ⟨e24, he24, hm⟩ := get_inv hm
              refine d_x [0, 1, 2] rfl rfl (x_ixo tab_ok rfl rfl rfl rfl he24 rfl) ?_
              refine d_x [0, 1, 2] rfl rfl (x_ldo tab_ok rfl rfl rfl rfl he24.2 rfl) ?_
              obtain ⟨r25, hr25, hm⟩ := bind_inv hm
              refine d_x [0, 1, 2] rfl rfl (rd_callRN rfl rfl (snaps_cons (.d _) (snaps_cons (.d _) snaps_nil)) (ref16_less_c hr25)) ?_
              iterate 2 (refine d_a [0, 1, 2] tab_ok rfl ?_)
              refine d_tail ?_ (by kernel_rfl)
              refine tops_nil ?_
              refine way_then ?_
              exact ⟨_, [0, 1, 2], (Option.some.inj hm).symm, rfl, k0, rfl⟩
            · replace hm := ite_T hq23 hm
              iterate 8 (refine d_a [0, 1, 2] tab_ok rfl ?_)
              refine d_tail ?_ (by kernel_rfl)
              refine tops_nil ?_
              refine way_then ?_
              exact ⟨_, [0, 1, 2], (Option.some.inj hm).symm, rfl, k0, rfl⟩
        · replace hm := ite_T hq18 hm
          iterate 12 (refine d_a [0, 1, 2] tab_ok rfl ?_)
          refine d_b [0, 1, 2] tab_ok rfl (fun q26 hq26 => ?_)
          cases q26
          · replace hm := ite_F hq26 hm
            iterate 3 (refine d_a [0, 1, 2] tab_ok rfl ?_)
            obtain ⟨e27, he27, hm⟩ := get_inv hm
            refine d_x [0, 1, 2] rfl rfl (x_ixo tab_ok rfl rfl rfl rfl he27 rfl) ?_
            refine d_x [0, 1, 2] rfl rfl (x_ldo tab_ok rfl rfl rfl rfl he27.2 rfl) ?_
            obtain ⟨r28, hr28, hm⟩ := bind_inv hm
            refine d_x [0, 1, 2] rfl rfl (rd_callRN rfl rfl (snaps_cons (.d _) (snaps_cons (.d _) snaps_nil)) (ref16_less_c hr28)) ?_
            iterate 2 (refine d_a [0, 1, 2] tab_ok rfl ?_)
            refine d_tail ?_ (by kernel_rfl)
            refine tops_nil ?_
            refine way_then ?_
            exact ⟨_, [0, 1, 2], (Option.some.inj hm).symm, rfl, k0, rfl⟩
          · replace hm := ite_T hq26 hm
            iterate 8 (refine d_a [0, 1, 2] tab_ok rfl ?_)
            refine d_tail ?_ (by kernel_rfl)
            refine tops_nil ?_
            refine way_then ?_
            exact ⟨_, [0, 1, 2], (Option.some.inj hm).symm, rfl, k0, rfl⟩
      · refine w_norm [3, 4, 5, 6, 20, 21, 22, 51] rfl rfl ?_
        refine twp_cond _ rfl (fun h29 => ?_) (fun h29 => ?_)
        · replace hm := iteB_T h29 hm
          refine twp_region ?_
          iterate 2 (refine s_a tab_ok rfl ?_)
          refine tops_nil ?_
          refine way_block ?_
          refine way_then ?_
          refine w_norm [3, 4, 5, 20, 21, 22] rfl rfl ?_
          refine twp_region ?_
          obtain ⟨g30, hm⟩ := guard_inv hm
          refine s_x rfl rfl (x_ar rfl rfl rfl rfl g30) ?_
          refine s_a tab_ok rfl ?_
          refine tops_nil ?_
          refine way_then ?_
          exact ⟨_, [0, 1], (Option.some.inj hm).symm, rfl, k0, rfl⟩
        · replace hm := iteB_F h29 hm
          refine twp_skip ?_
          refine way_block ?_
          refine way_then ?_
          refine w_norm [3, 4, 5, 20, 21, 22] rfl rfl ?_
          refine twp_region ?_
          obtain ⟨g31, hm⟩ := guard_inv hm
          refine s_x rfl rfl (x_ar rfl rfl rfl rfl g31) ?_
          refine s_a tab_ok rfl ?_
          refine tops_nil ?_
          refine way_then ?_
          exact ⟨_, [0, 1], (Option.some.inj hm).symm, rfl, k0, rfl⟩
    · replace hm := ite_F h14 hm
      refine twp_exit ?_
      refine way_thenExit ?_
      obtain ⟨v32, hm, hz⟩ := inr_inv hm
      rw [hz13 _ hz] at hm
      refine way_thenExit ?_
      refine way_here ?_
      refine way_then ?_
      exact ⟨_, [0, 1], (Option.some.inj hm).symm, rfl, k0, rfl⟩
  · refine w_norm [3, 4, 5] rfl rfl ?_
    refine twp_seq ?_
    refine twp_rseq ?_
    iterate 2 (refine s_a tab_ok rfl ?_)
    refine tops_nil ?_
    refine w_norm [3, 4, 5, 55] rfl rfl ?_
    refine twp_cond _ rfl (fun h33 => ?_) (fun h33 => ?_)
    · replace hm := ite_T h33 hm
      refine twp_rseq ?_
      iterate 2 (refine s_a tab_ok rfl ?_)
      refine tops_nil ?_
      refine w_norm [2] rfl rfl ?_
      refine twp_ret ?_
      refine way_thenRet ?_
      refine way_blockRet ?_
      obtain ⟨v34, hm, hz⟩ := inr_inv hm
      rw [hz6 _ hz] at hm
      refine way_thenRet ?_
      refine way_blockRet ?_
      obtain rfl := Option.some.inj hm
      exact EndsS.one _ rfl (snap_map rfl) (.refl _)
    · replace hm := ite_F h33 hm
      refine twp_skip ?_
      refine way_then ?_
      refine w_norm [3, 4, 5] rfl rfl ?_
      refine twp_region ?_
      iterate 3 (refine s_a tab_ok rfl ?_)
      obtain ⟨e35, he35, hm⟩ := get_inv hm
      refine s_x rfl rfl (x_ixo tab_ok rfl rfl rfl rfl he35 rfl) ?_
      refine s_x rfl rfl (x_ldo tab_ok rfl rfl rfl rfl he35.2 rfl) ?_
      refine s_x rfl rfl (x_lit [.tmp 61] tab_ok rfl rfl zero43 rfl rfl rfl rfl rfl) ?_
      obtain ⟨g36, hm⟩ := guard_inv hm
      refine s_app (f := Setting.enc) ([e35] : List Setting) tab_ok rfl rfl zero43 rfl rfl rfl rfl rfl (fun h => absurd h (Nat.not_lt_zero _)) rfl src_d g36 rfl rfl ?_
      refine s_a tab_ok rfl ?_
      refine tops_nil ?_
      refine way_block ?_
      refine way_then ?_
      exact ⟨_, [0, 1], (Option.some.inj hm).symm, rfl, k0, rfl⟩

theorem ref22_Proved_c {p0 : Table} {p1 : Inputs} {p2 : Int} {r : Bool} (hm : ref22_Proved p0 p1 p2 = some r) : RetN Try.prog 20 [p0.enc, p1.enc, .int .i64 p2] (.bool (r)) := by
  refine .unit (ret_bodyS callB20 Try.func20 rfl Try.ntmps20 rfl rfl (fun wX gX => ?_)) rfl
  unfold ref22_Proved at hm
  refine w_norm [0, 1, 2] rfl rfl ?_
  refine twp_rseq ?_
  refine s_bx 0 rfl rfl rfl ?_
  refine s_bx 1 rfl rfl rfl ?_
  refine s_a tab_ok rfl ?_
  refine tops_nil ?_
  refine w_norm [2, 3, 4] rfl rfl ?_
  refine twp_seq ?_
  refine w_joinM hm (fun x1 => ([(24, .d (.bool (x1)))] : Fr)) (fun x1 => ([] : List (Nat × Blk))) [24] [2, 3, 4] rfl (fun z2 hm => ?_) (fun x1 hm => ?_)
  · refine twp_region ?_
    refine s_a tab_ok rfl ?_
    obtain ⟨r3, hr3, hm⟩ := bind_inv hm
    refine s_x rfl rfl (rd_callRN rfl rfl (snaps_cons (.d _) snaps_nil) (ref16_Check_c hr3)) ?_
    refine s_a tab_ok rfl ?_
    refine s_b tab_ok rfl (fun q4 hq4 => ?_)
    cases q4
    · replace hm := iteN_F hq4 hm
      iterate 3 (refine s_a tab_ok rfl ?_)
      refine s_b tab_ok rfl (fun q5 hq5 => ?_)
      cases q5
      · replace hm := ite_F hq5 hm
        iterate 3 (refine s_a tab_ok rfl ?_)
        refine s_x rfl rfl (x_len tab_ok rfl rfl rfl) ?_
        iterate 2 (refine s_a tab_ok rfl ?_)
        refine tops_nil ?_
        refine way_then ?_
        exact ⟨_, [0, 1], (Option.some.inj hm).symm, rfl, k0, rfl⟩
      · replace hm := ite_T hq5 hm
        iterate 6 (refine s_a tab_ok rfl ?_)
        refine tops_nil ?_
        refine way_then ?_
        exact ⟨_, [0, 1], (Option.some.inj hm).symm, rfl, k0, rfl⟩
    · replace hm := iteN_T hq4 hm
      iterate 10 (refine s_a tab_ok rfl ?_)
      refine tops_nil ?_
      refine way_then ?_
      exact ⟨_, [0, 1], (Option.some.inj hm).symm, rfl, k0, rfl⟩
  · refine w_norm [2, 3, 4, 24] rfl rfl ?_
    refine twp_cond _ rfl (fun h6 => ?_) (fun h6 => ?_)
    · replace hm := iteB_T h6 hm
      refine twp_rseq ?_
      refine s_a tab_ok rfl ?_
      refine tops_nil ?_
      refine w_norm [6] rfl rfl ?_
      refine twp_ret ?_
      refine way_thenRet ?_
      obtain rfl := Option.some.inj hm
      exact EndsS.one _ rfl (.d _) (.refl _)
    · replace hm := iteB_F h6 hm
      refine twp_skip ?_
      refine way_then ?_
      refine w_norm [2, 3, 4] rfl rfl ?_
      refine twp_rseq ?_
      iterate 3 (refine s_a tab_ok rfl ?_)
      obtain ⟨e7, he7, hm⟩ := get_inv hm
      refine s_x rfl rfl (x_ix tab_ok rfl rfl rfl rfl he7) ?_
      refine s_a tab_ok rfl ?_
      refine s_al 2 rfl rfl zero50 rfl ?_
      refine s_wkb 2 [none, none, none, some 3, some 2, some 1, none, none, some 3, some 2, some 1, some 2, some 1, some 2] rfl rfl ?_
      refine s_a tab_ok rfl ?_
      refine tops_nil ?_
      refine w_norm [3, 4, 7] rfl rfl ?_
      refine twp_seq ?_
      refine w_joinM hm (fun x8 => ([(39, .d (.bool (x8)))] : Fr)) (fun x8 => ([] : List (Nat × Blk))) [39] [3, 4, 7] rfl (fun z9 hm => ?_) (fun x8 hm => ?_)
      · refine twp_region ?_
        iterate 3 (refine s_a tab_ok rfl ?_)
        obtain ⟨r10, hr10, hm⟩ := bind_inv hm
        refine s_x rfl rfl (rd_callRN rfl rfl (snaps_cons (.d _) (snaps_cons (.d _) snaps_nil)) (ref22_oneOccupied_c hr10)) ?_
        refine s_b tab_ok rfl (fun q11 hq11 => ?_)
        cases q11
        · replace hm := iteB_F hq11 hm
          iterate 3 (refine s_a tab_ok rfl ?_)
          obtain ⟨r12, hr12, hm⟩ := bind_inv hm
          refine s_x rfl rfl (rd_callRN rfl rfl (snaps_cons (.d _) (snaps_cons (.d _) snaps_nil)) (ref22_oneOccupied_c hr12)) ?_
          refine s_a tab_ok rfl ?_
          refine tops_nil ?_
          refine way_then ?_
          exact ⟨_, [0, 1, 2], (Option.some.inj hm).symm, rfl, k0, rfl⟩
        · replace hm := iteB_T hq11 hm
          iterate 5 (refine s_a tab_ok rfl ?_)
          refine tops_nil ?_
          refine way_then ?_
          exact ⟨_, [0, 1, 2], (Option.some.inj hm).symm, rfl, k0, rfl⟩
      · refine w_norm [3, 4, 7, 39] rfl rfl ?_
        refine twp_cond _ rfl (fun h13 => ?_) (fun h13 => ?_)
        · replace hm := iteB_T h13 hm
          refine twp_rseq ?_
          refine s_a tab_ok rfl ?_
          refine tops_nil ?_
          refine w_norm [6] rfl rfl ?_
          refine twp_ret ?_
          refine way_thenRet ?_
          obtain rfl := Option.some.inj hm
          exact EndsS.one _ rfl (.d _) (.refl _)
        · replace hm := iteB_F h13 hm
          refine twp_skip ?_
          refine way_then ?_
          refine w_norm [3, 4, 7] rfl rfl ?_
          refine twp_rseq ?_
          refine s_a tab_ok rfl ?_
          obtain ⟨r14, hr14, hm⟩ := bind_inv hm
          refine s_x rfl rfl (rd_callRD rfl rfl rfl (ref16_Settings_c hr14)) ?_
          refine s_a tab_ok rfl ?_
          refine tops_nil ?_
          refine w_norm [3, 4, 8] rfl rfl ?_
          refine w_joinS hm (fun _ => ([] : Fr)) (fun _ => ([] : List (Nat × Blk))) [] [] rfl (fun z15 hm hz15 => ?_) (fun j hm => ?_)
          · refine twp_rseq ?_
            refine s_a tab_ok rfl ?_
            refine tops_nil ?_
            refine w_norm [3, 4, 8, 9] rfl rfl ?_
            refine twp_block ?_
            refine w_loop hm (fun x17 => ([(9, .d (.int .i64 x17))] : Fr)) (fun x17 => ([] : List (Nat × Blk))) [9] [3, 4, 8] [0, 1, 2] rfl k0 rfl rfl rfl rfl rfl (fun x17 z18 hm hz18 => ?_)
            refine w_norm [3, 4, 8, 9] rfl rfl ?_
            refine twp_seq ?_
            refine twp_rseq ?_
            iterate 2 (refine s_a tab_ok rfl ?_)
            refine s_x rfl rfl (x_len tab_ok rfl rfl rfl) ?_
            refine s_a tab_ok rfl ?_
            refine tops_nil ?_
            refine w_norm [3, 4, 8, 9, 45] rfl rfl ?_
            refine twp_cond _ rfl (fun h19 => ?_) (fun h19 => ?_)
            · replace hm := ite_T h19 hm
              refine twp_skip ?_
              refine way_then ?_
              refine w_norm [3, 4, 8, 9] rfl rfl ?_
              refine twp_seq ?_
              refine twp_block ?_
              refine twp_dseq follows  ?_
              iterate 3 (refine d_a [0, 1, 2] tab_ok rfl ?_)
              obtain ⟨e20, he20, hm⟩ := get_inv hm
              refine d_x [0, 1, 2] rfl rfl (x_ix tab_ok rfl rfl rfl rfl he20) ?_
              iterate 2 (refine d_a [0, 1, 2] tab_ok rfl ?_)
              obtain ⟨r21, hr21, hm⟩ := bind_inv hm
              refine d_x [0, 1, 2] rfl rfl (rd_callRN rfl rfl (snaps_cons (.d _) (snaps_cons (.d _) snaps_nil)) (ref16_Index_c hr21)) ?_
              refine d_tail ?_ (by kernel_rfl)
              refine s_a tab_ok rfl ?_
              refine tops_nil ?_
              refine w_norm [3, 4, 8, 9, 10] rfl rfl ?_
              refine w_joinM hm (fun x22 => ([(76, .d (.bool (x22)))] : Fr)) (fun x22 => ([] : List (Nat × Blk))) [76] [3, 4, 8, 9] rfl (fun z23 hm => ?_) (fun x22 hm => ?_)
              · refine twp_draw follows  ?_
                iterate 2 (refine d_a [0, 1, 2] tab_ok rfl ?_)
                refine d_b [0, 1, 2] tab_ok rfl (fun q24 hq24 => ?_)
                cases q24
                · replace hm := ite_F hq24 hm
                  iterate 3 (refine d_a [0, 1, 2] tab_ok rfl ?_)
                  refine d_x [0, 1, 2] rfl rfl (x_len tab_ok rfl rfl rfl) ?_
                  iterate 2 (refine d_a [0, 1, 2] tab_ok rfl ?_)
                  refine d_b [0, 1, 2] tab_ok rfl (fun q25 hq25 => ?_)
                  cases q25
                  · replace hm := ite_F hq25 hm
                    iterate 3 (refine d_a [0, 1, 2] tab_ok rfl ?_)
                    obtain ⟨e26, he26, hm⟩ := get_inv hm
                    refine d_x [0, 1, 2] rfl rfl (x_ix tab_ok rfl rfl rfl rfl he26) ?_
                    iterate 3 (refine d_a [0, 1, 2] tab_ok rfl ?_)
                    obtain ⟨e27, he27, hm⟩ := get_inv hm
                    refine d_x [0, 1, 2] rfl rfl (x_ix tab_ok rfl rfl rfl rfl he27) ?_
                    iterate 4 (refine d_a [0, 1, 2] tab_ok rfl ?_)
                    refine d_tail ?_ (by kernel_rfl)
                    refine tops_nil ?_
                    refine way_then ?_
                    exact ⟨_, [0, 1, 2], (Option.some.inj hm).symm, rfl, k0, rfl⟩
                  · replace hm := ite_T hq25 hm
                    iterate 12 (refine d_a [0, 1, 2] tab_ok rfl ?_)
                    refine d_tail ?_ (by kernel_rfl)
                    refine tops_nil ?_
                    refine way_then ?_
                    exact ⟨_, [0, 1, 2], (Option.some.inj hm).symm, rfl, k0, rfl⟩
                · replace hm := ite_T hq24 hm
                  iterate 19 (refine d_a [0, 1, 2] tab_ok rfl ?_)
                  refine d_tail ?_ (by kernel_rfl)
                  refine tops_nil ?_
                  refine way_then ?_
                  exact ⟨_, [0, 1, 2], (Option.some.inj hm).symm, rfl, k0, rfl⟩
              · refine w_norm [3, 4, 8, 9, 76] rfl rfl ?_
                refine twp_cond _ rfl (fun h28 => ?_) (fun h28 => ?_)
                · replace hm := iteB_T h28 hm
                  refine twp_rseq ?_
                  refine s_a tab_ok rfl ?_
                  refine tops_nil ?_
                  refine w_norm [6] rfl rfl ?_
                  refine twp_ret ?_
                  refine way_blockRet ?_
                  refine way_thenRet ?_
                  obtain ⟨v29, hm, hz⟩ := inr_inv hm
                  rw [hz18 _ hz] at hm
                  refine way_thenRet ?_
                  refine way_blockRet ?_
                  obtain ⟨v30, hm, hz⟩ := inr_inv hm
                  rw [hz15 _ hz] at hm
                  refine way_thenRet ?_
                  obtain rfl := Option.some.inj hm
                  exact EndsS.one _ rfl (.d _) (.refl _)
                · replace hm := iteB_F h28 hm
                  refine twp_skip ?_
                  refine way_block ?_
                  refine way_then ?_
                  refine w_norm [3, 4, 8, 9] rfl rfl ?_
                  refine twp_region ?_
                  refine s_a tab_ok rfl ?_
                  obtain ⟨g31, hm⟩ := guard_inv hm
                  refine s_x rfl rfl (x_ar rfl rfl rfl rfl g31) ?_
                  refine s_a tab_ok rfl ?_
                  refine tops_nil ?_
                  refine way_then ?_
                  exact ⟨_, [0, 1, 2], (Option.some.inj hm).symm, rfl, k0, rfl⟩
            · replace hm := ite_F h19 hm
              refine twp_exit ?_
              refine way_thenExit ?_
              obtain ⟨v32, hm, hz⟩ := inr_inv hm
              rw [hz18 _ hz] at hm
              refine way_thenExit ?_
              refine way_here ?_
              refine way_then ?_
              exact ⟨_, [0, 1, 2], (Option.some.inj hm).symm, rfl, k0, rfl⟩
          · refine w_norm [] rfl rfl ?_
            refine twp_rseq ?_
            refine s_a tab_ok rfl ?_
            refine tops_nil ?_
            refine w_norm [6] rfl rfl ?_
            refine twp_ret ?_
            obtain rfl := Option.some.inj hm
            exact EndsS.one _ rfl (.d _) (.refl _)

theorem ref22_claimed_c {p0 : Inputs} {p1 : Int} {r : Bool} (hm : ref22_claimed p0 p1 = some r) : RetN Try.prog 53 [p0.enc, .int .i64 p1] (.bool (r)) := by
  refine .unit (ret_bodyS callB53 Try.func53 rfl Try.ntmps53 rfl rfl (fun wX gX => ?_)) rfl
  unfold ref22_claimed at hm
  refine w_norm [0, 1] rfl rfl ?_
  refine twp_rseq ?_
  refine s_bx 0 rfl rfl rfl ?_
  refine s_a tab_ok rfl ?_
  refine tops_nil ?_
  refine w_norm [1, 2] rfl rfl ?_
  refine w_joinM hm (fun x1 => ([(4, .d (.bool (x1)))] : Fr)) (fun x1 => ([] : List (Nat × Blk))) [4] [] rfl (fun z2 hm => ?_) (fun x1 hm => ?_)
  · refine twp_region ?_
    iterate 3 (refine s_a tab_ok rfl ?_)
    refine s_x rfl rfl (x_len tab_ok rfl rfl rfl) ?_
    refine s_a tab_ok rfl ?_
    refine s_b tab_ok rfl (fun q3 hq3 => ?_)
    cases q3
    · replace hm := ite_F hq3 hm
      iterate 3 (refine s_a tab_ok rfl ?_)
      obtain ⟨e4, he4, hm⟩ := get_inv hm
      refine s_x rfl rfl (x_ix tab_ok rfl rfl rfl rfl he4) ?_
      iterate 3 (refine s_a tab_ok rfl ?_)
      refine tops_nil ?_
      refine way_then ?_
      exact ⟨_, [0], (Option.some.inj hm).symm, rfl, k0, rfl⟩
    · replace hm := ite_T hq3 hm
      iterate 7 (refine s_a tab_ok rfl ?_)
      refine tops_nil ?_
      refine way_then ?_
      exact ⟨_, [0], (Option.some.inj hm).symm, rfl, k0, rfl⟩
  · refine w_norm [4] rfl rfl ?_
    refine twp_ret ?_
    obtain rfl := Option.some.inj hm
    exact EndsS.one _ rfl (.d _) (.refl _)

theorem ref22_cleared_c {p0 : Table} {p1 : Inputs} {p2 : Int} {r : RouteState} (hm : ref22_cleared p0 p1 p2 = some r) : RetN Try.prog 32 [p0.enc, p1.enc, .int .i64 p2] (r.enc) := by
  refine .unit (ret_bodyS callB32 Try.func32 rfl Try.ntmps32 rfl rfl (fun wX gX => ?_)) rfl
  unfold ref22_cleared at hm
  refine w_norm [0, 1, 2] rfl rfl ?_
  refine twp_rseq ?_
  refine s_bx 0 rfl rfl rfl ?_
  refine s_bx 1 rfl rfl rfl ?_
  refine s_al 2 rfl rfl zero36 rfl ?_
  refine tops_nil ?_
  refine w_norm [2, 3, 4, 6] rfl rfl ?_
  refine twp_rseq ?_
  iterate 3 (refine s_a tab_ok rfl ?_)
  obtain ⟨e1, he1, hm⟩ := get_inv hm
  refine s_x rfl rfl (x_ix tab_ok rfl rfl rfl rfl he1) ?_
  refine s_a tab_ok rfl ?_
  refine s_al 3 rfl rfl zero50 rfl ?_
  refine s_wkb 3 [none, none, none, some 3, some 2, some 1, none, none, some 3, some 2, some 1, some 2, some 1, some 2] rfl rfl ?_
  refine s_a tab_ok rfl ?_
  refine tops_nil ?_
  refine w_norm [2, 3, 4, 6, 7] rfl rfl ?_
  refine twp_seq ?_
  refine twp_block ?_
  refine twp_dseq follows  ?_
  iterate 3 (refine d_a [0, 1, 2, 3] tab_ok rfl ?_)
  obtain ⟨e2, he2, hm⟩ := get_inv hm
  refine d_x [0, 1, 2, 3] rfl rfl (x_ix tab_ok rfl rfl rfl rfl he2) ?_
  refine d_a [0, 1, 2, 3] tab_ok rfl ?_
  obtain ⟨r3, hr3, hm⟩ := bind_inv hm
  refine d_x [0, 1, 2, 3] rfl rfl (rd_callRN rfl rfl (snaps_cons (.d _) (snaps_cons (.d _) snaps_nil)) (ref22_Occupied_c hr3)) ?_
  refine d_tail ?_ (by kernel_rfl)
  refine s_a tab_ok rfl ?_
  refine tops_nil ?_
  refine w_norm [2, 3, 4, 6, 7, 13] rfl rfl ?_
  refine twp_cond _ rfl (fun h4 => ?_) (fun h4 => ?_)
  · replace hm := iteB_T h4 hm
    refine twp_rseq ?_
    refine s_x rfl rfl (build_d rfl plc36 zero36 rfl rfl rfl rfl) ?_
    refine s_a tab_ok rfl ?_
    refine tops_nil ?_
    refine w_norm [6] rfl rfl ?_
    refine twp_ret ?_
    refine way_blockRet ?_
    refine way_thenRet ?_
    obtain rfl := Option.some.inj hm
    exact EndsS.cellR _ tab_ok rfl rfl rfl rfl rfl (.d _)
  · replace hm := iteB_F h4 hm
    refine w_joinM hm (fun x5 => ([(21, .d (.bool (x5)))] : Fr)) (fun x5 => ([] : List (Nat × Blk))) [21] [2, 3, 4, 6] rfl (fun z6 hm => ?_) (fun x5 hm => ?_)
    · refine twp_region ?_
      iterate 2 (refine s_a tab_ok rfl ?_)
      obtain ⟨r7, hr7, hm⟩ := bind_inv hm
      refine s_x rfl rfl (rd_callRN rfl rfl (snaps_cons (.d _) (snaps_cons (.d _) snaps_nil)) (ref22_cancelled_c hr7)) ?_
      refine s_b tab_ok rfl (fun q8 hq8 => ?_)
      cases q8
      · replace hm := iteB_F hq8 hm
        iterate 13 (refine s_a tab_ok rfl ?_)
        refine tops_nil ?_
        refine way_then ?_
        exact ⟨_, [0, 1, 2, 3], (Option.some.inj hm).symm, rfl, k0, rfl⟩
      · replace hm := iteB_T hq8 hm
        iterate 2 (refine s_a tab_ok rfl ?_)
        obtain ⟨r9, hr9, hm⟩ := bind_inv hm
        refine s_x rfl rfl (rd_callRN rfl rfl (snaps_cons (.d _) (snaps_cons (.d _) snaps_nil)) (ref22_claimed_c hr9)) ?_
        iterate 2 (refine s_a tab_ok rfl ?_)
        refine s_b tab_ok rfl (fun q10 hq10 => ?_)
        cases q10
        · replace hm := iteB_F hq10 hm
          iterate 7 (refine s_a tab_ok rfl ?_)
          refine tops_nil ?_
          refine way_then ?_
          exact ⟨_, [0, 1, 2, 3], (Option.some.inj hm).symm, rfl, k0, rfl⟩
        · replace hm := iteB_T hq10 hm
          iterate 3 (refine s_a tab_ok rfl ?_)
          obtain ⟨r11, hr11, hm⟩ := bind_inv hm
          refine s_x rfl rfl (rd_callRN rfl rfl (snaps_cons (.d _) (snaps_cons (.d _) snaps_nil)) (ref22_Occupied_c hr11)) ?_
          iterate 3 (refine s_a tab_ok rfl ?_)
          refine tops_nil ?_
          refine way_then ?_
          exact ⟨_, [0, 1, 2, 3], (Option.some.inj hm).symm, rfl, k0, rfl⟩
    · refine w_norm [2, 3, 4, 6, 21] rfl rfl ?_
      refine twp_cond _ rfl (fun h12 => ?_) (fun h12 => ?_)
      · replace hm := iteB_T h12 hm
        refine twp_rseq ?_
        refine s_x rfl rfl (build_d rfl plc36 zero36 rfl rfl rfl rfl) ?_
        refine s_a tab_ok rfl ?_
        refine tops_nil ?_
        refine w_norm [6] rfl rfl ?_
        refine twp_ret ?_
        refine way_blockRet ?_
        refine way_thenRet ?_
        obtain rfl := Option.some.inj hm
        exact EndsS.cellR _ tab_ok rfl rfl rfl rfl rfl (.d _)
      · replace hm := iteB_F h12 hm
        refine w_joinM hm (fun x13 => ([(39, .d (.bool (x13)))] : Fr)) (fun x13 => ([] : List (Nat × Blk))) [39] [6] rfl (fun z14 hm => ?_) (fun x13 hm => ?_)
        · refine twp_region ?_
          iterate 2 (refine s_a tab_ok rfl ?_)
          obtain ⟨r15, hr15, hm⟩ := bind_inv hm
          refine s_x rfl rfl (rd_callRN rfl rfl (snaps_cons (.d _) (snaps_cons (.d _) snaps_nil)) (ref22_cancelled_c hr15)) ?_
          refine s_b tab_ok rfl (fun q16 hq16 => ?_)
          cases q16
          · replace hm := iteB_F hq16 hm
            iterate 3 (refine s_a tab_ok rfl ?_)
            obtain ⟨r17, hr17, hm⟩ := bind_inv hm
            refine s_x rfl rfl (rd_callRN rfl rfl (snaps_cons (.d _) (snaps_cons (.d _) (snaps_cons (.d _) snaps_nil))) (ref22_Proved_c hr17)) ?_
            iterate 3 (refine s_a tab_ok rfl ?_)
            refine tops_nil ?_
            refine way_then ?_
            exact ⟨_, [0, 1, 2, 3], (Option.some.inj hm).symm, rfl, k0, rfl⟩
          · replace hm := iteB_T hq16 hm
            iterate 7 (refine s_a tab_ok rfl ?_)
            refine tops_nil ?_
            refine way_then ?_
            exact ⟨_, [0, 1, 2, 3], (Option.some.inj hm).symm, rfl, k0, rfl⟩
        · refine w_norm [6, 39] rfl rfl ?_
          refine twp_cond _ rfl (fun h18 => ?_) (fun h18 => ?_)
          · replace hm := iteB_T h18 hm
            refine twp_rseq ?_
            refine s_x rfl rfl (build_d rfl plc36 zero36 rfl rfl rfl rfl) ?_
            refine s_a tab_ok rfl ?_
            refine tops_nil ?_
            refine w_norm [6] rfl rfl ?_
            refine twp_ret ?_
            refine way_blockRet ?_
            refine way_thenRet ?_
            obtain rfl := Option.some.inj hm
            exact EndsS.cellR _ tab_ok rfl rfl rfl rfl rfl (.d _)
          · replace hm := iteB_F h18 hm
            refine twp_skip ?_
            refine way_block ?_
            refine way_then ?_
            refine w_norm [6] rfl rfl ?_
            refine twp_rseq ?_
            refine s_x rfl rfl (build_d rfl plc36 zero36 rfl rfl rfl rfl) ?_
            refine s_a tab_ok rfl ?_
            refine tops_nil ?_
            refine w_norm [6] rfl rfl ?_
            refine twp_ret ?_
            obtain rfl := Option.some.inj hm
            exact EndsS.cellR _ tab_ok rfl rfl rfl rfl rfl (.d _)

theorem ref21_locked_c {p0 : Table} {p1 : Inter} {p2 : Int} {r : Bool} (hm : ref21_locked p0 p1 p2 = some r) : RetN Try.prog 37 [p0.enc, p1.enc, .int .i64 p2] (.bool (r)) := by
  refine .unit (ret_bodyS callB37 Try.func37 rfl Try.ntmps37 rfl rfl (fun wX gX => ?_)) rfl
  unfold ref21_locked at hm
  refine w_norm [0, 1, 2] rfl rfl ?_
  refine twp_rseq ?_
  refine s_bx 0 rfl rfl rfl ?_
  refine s_bx 1 rfl rfl rfl ?_
  refine s_a tab_ok rfl ?_
  refine tops_nil ?_
  refine w_norm [2, 3, 4] rfl rfl ?_
  refine w_joinM hm (fun x1 => ([(6, .d (.bool (x1)))] : Fr)) (fun x1 => ([] : List (Nat × Blk))) [6] [] rfl (fun z2 hm => ?_) (fun x1 hm => ?_)
  · refine twp_region ?_
    iterate 2 (refine s_a tab_ok rfl ?_)
    refine s_b tab_ok rfl (fun q3 hq3 => ?_)
    cases q3
    · replace hm := ite_F hq3 hm
      iterate 21 (refine s_a tab_ok rfl ?_)
      refine tops_nil ?_
      refine way_then ?_
      exact ⟨_, [0, 1], (Option.some.inj hm).symm, rfl, k0, rfl⟩
    · replace hm := ite_T hq3 hm
      iterate 3 (refine s_a tab_ok rfl ?_)
      refine s_x rfl rfl (x_len tab_ok rfl rfl rfl) ?_
      iterate 2 (refine s_a tab_ok rfl ?_)
      refine s_b tab_ok rfl (fun q4 hq4 => ?_)
      cases q4
      · replace hm := ite_F hq4 hm
        iterate 14 (refine s_a tab_ok rfl ?_)
        refine tops_nil ?_
        refine way_then ?_
        exact ⟨_, [0, 1], (Option.some.inj hm).symm, rfl, k0, rfl⟩
      · replace hm := ite_T hq4 hm
        iterate 2 (refine s_a tab_ok rfl ?_)
        obtain ⟨r5, hr5, hm⟩ := bind_inv hm
        refine s_x rfl rfl (rd_callRN rfl rfl (snaps_cons (.d _) (snaps_cons (.d _) snaps_nil)) (ref21_Fits_c hr5)) ?_
        refine s_a tab_ok rfl ?_
        refine s_b tab_ok rfl (fun q6 hq6 => ?_)
        cases q6
        · replace hm := iteB_F hq6 hm
          iterate 9 (refine s_a tab_ok rfl ?_)
          refine tops_nil ?_
          refine way_then ?_
          exact ⟨_, [0, 1], (Option.some.inj hm).symm, rfl, k0, rfl⟩
        · replace hm := iteB_T hq6 hm
          iterate 3 (refine s_a tab_ok rfl ?_)
          obtain ⟨e7, he7, hm⟩ := get_inv hm
          refine s_x rfl rfl (x_ix tab_ok rfl rfl rfl rfl he7) ?_
          iterate 5 (refine s_a tab_ok rfl ?_)
          refine tops_nil ?_
          refine way_then ?_
          exact ⟨_, [0, 1], (Option.some.inj hm).symm, rfl, k0, rfl⟩
  · refine w_norm [6] rfl rfl ?_
    refine twp_ret ?_
    obtain rfl := Option.some.inj hm
    exact EndsS.one _ rfl (.d _) (.refl _)

theorem ref21_path_c {p0 : Table} {p1 : Inter} {p2 : Int} {r : (List Int)} (hm : ref21_path p0 p1 p2 = some r) : RetD Try.prog 38 [p0.enc, p1.enc, .int .i64 p2] (.sl 1 (r.map (D.int .i64))) := by
  refine .of (mv := fun _ => false) (ret_bodyS callB38 Try.func38 rfl Try.ntmps38 rfl rfl (fun wX gX => ?_))
  unfold ref21_path at hm
  refine w_norm [0, 1, 2] rfl rfl ?_
  refine twp_rseq ?_
  refine s_bx 0 rfl rfl rfl ?_
  refine s_bx 1 rfl rfl rfl ?_
  refine s_a tab_ok rfl ?_
  refine tops_nil ?_
  refine w_norm [2, 3, 4] rfl rfl ?_
  refine twp_seq ?_
  refine twp_rseq ?_
  iterate 3 (refine s_a tab_ok rfl ?_)
  obtain ⟨e1, he1, hm⟩ := get_inv hm
  refine s_x rfl rfl (x_ix tab_ok rfl rfl rfl rfl he1) ?_
  iterate 3 (refine s_a tab_ok rfl ?_)
  refine tops_nil ?_
  refine w_norm [2, 3, 4, 13] rfl rfl ?_
  refine twp_cond _ rfl (fun h2 => ?_) (fun h2 => ?_)
  · replace hm := ite_T h2 hm
    refine twp_rseq ?_
    refine s_a tab_ok rfl ?_
    refine tops_nil ?_
    refine c_wk 6 [some 1] rfl ?_
    refine w_norm [6] rfl rfl ?_
    refine twp_ret ?_
    refine way_thenRet ?_
    obtain rfl := Option.some.inj hm
    exact EndsS.one _ rfl (.d _) (.refl _)
  · replace hm := ite_F h2 hm
    refine twp_skip ?_
    refine way_then ?_
    refine w_norm [2, 3, 4] rfl rfl ?_
    refine twp_hole ?_
    refine twp_dseq follows  ?_
    refine d_wr [2] _ (.msl 2 1 0 (([] : List Int)).length) rfl (onE_A rfl) rfl (w_litD [] rfl rfl (tab_ok.sel rfl) zero3 rfl rfl rfl rfl rfl) ?_
    refine d_a [] tab_ok rfl ?_
    refine d_a [0] tab_ok rfl ?_
    refine d_a [] tab_ok rfl ?_
    obtain ⟨e3, he3, hm⟩ := get_inv hm
    refine d_x [] rfl rfl (x_ix tab_ok rfl rfl rfl rfl he3) ?_
    iterate 3 (refine d_a [] tab_ok rfl ?_)
    refine d_a [1] tab_ok rfl ?_
    refine d_a [] tab_ok rfl ?_
    obtain ⟨e4, he4, hm⟩ := get_inv hm
    refine d_x [] rfl rfl (x_ix tab_ok rfl rfl rfl rfl he4) ?_
    iterate 2 (refine d_a [] tab_ok rfl ?_)
    obtain ⟨g5, hm⟩ := guard_inv hm
    refine d_x [] rfl rfl (x_cut tab_ok rfl rfl rfl rfl rfl g5) ?_
    refine d_tail ?_ (by kernel_rfl)
    obtain ⟨g6, hm⟩ := guard_inv hm
    refine s_app (f := (D.int .i64)) (sub e3.sections e4.rel (e3.sections.length : Int)) tab_ok rfl rfl zero3 rfl rfl rfl rfl rfl (fun h => absurd h (Nat.not_lt_zero _)) rfl src_d g6 rfl rfl ?_
    refine s_a tab_ok rfl ?_
    refine tops_nil ?_
    refine w_norm [6] rfl rfl ?_
    refine twp_ret ?_
    obtain rfl := Option.some.inj hm
    exact EndsS.one _ rfl (snap_map rfl) (.refl _)

theorem ref21_Path_c {p0 : Table} {p1 : Inter} {p2 : Int} {r : (List Int)} (hm : ref21_Path p0 p1 p2 = some r) : RetD Try.prog 14 [p0.enc, p1.enc, .int .i64 p2] (.sl 1 (r.map (D.int .i64))) := by
  refine .of (mv := fun _ => false) (ret_bodyS callB14 Try.func14 rfl Try.ntmps14 rfl rfl (fun wX gX => ?_))
  unfold ref21_Path at hm
  refine w_norm [0, 1, 2] rfl rfl ?_
  refine twp_rseq ?_
  refine s_bx 0 rfl rfl rfl ?_
  refine s_bx 1 rfl rfl rfl ?_
  refine s_a tab_ok rfl ?_
  refine tops_nil ?_
  refine w_norm [2, 3, 4] rfl rfl ?_
  refine twp_seq ?_
  refine twp_rseq ?_
  iterate 3 (refine s_a tab_ok rfl ?_)
  obtain ⟨r1, hr1, hm⟩ := bind_inv hm
  refine s_x rfl rfl (rd_callRN rfl rfl (snaps_cons (.d _) (snaps_cons (.d _) (snaps_cons (.d _) snaps_nil))) (ref21_locked_c hr1)) ?_
  refine s_a tab_ok rfl ?_
  refine tops_nil ?_
  refine w_norm [2, 3, 4, 11] rfl rfl ?_
  refine twp_cond _ rfl (fun h2 => ?_) (fun h2 => ?_)
  · replace hm := iteB_T h2 hm
    refine twp_rseq ?_
    refine s_a tab_ok rfl ?_
    refine tops_nil ?_
    refine c_wk 6 [some 1] rfl ?_
    refine w_norm [6] rfl rfl ?_
    refine twp_ret ?_
    refine way_thenRet ?_
    obtain rfl := Option.some.inj hm
    exact EndsS.one _ rfl (.d _) (.refl _)
  · replace hm := iteB_F h2 hm
    refine twp_skip ?_
    refine way_then ?_
    refine w_norm [2, 3, 4] rfl rfl ?_
    refine twp_rseq ?_
    iterate 3 (refine s_a tab_ok rfl ?_)
    obtain ⟨r3, hr3, hm⟩ := bind_inv hm
    refine s_x rfl rfl (rd_callRD rfl rfl rfl (ref21_path_c hr3)) ?_
    refine s_a tab_ok rfl ?_
    refine tops_nil ?_
    refine w_norm [6] rfl rfl ?_
    refine twp_ret ?_
    obtain rfl := Option.some.inj hm
    exact EndsS.one _ rfl (.d _) (.refl _)

theorem ref22_Emptied_c {p0 : Table} {p1 : Inter} {p2 : Inputs} {p3 : Int} {r : Bool} (hm : ref22_Emptied p0 p1 p2 p3 = some r) : RetN Try.prog 22 [p0.enc, p1.enc, p2.enc, .int .i64 p3] (.bool (r)) := by
  refine .unit (ret_bodyS callB22 Try.func22 rfl Try.ntmps22 rfl rfl (fun wX gX => ?_)) rfl
  unfold ref22_Emptied at hm
  refine w_norm [0, 1, 2, 3] rfl rfl ?_
  refine twp_rseq ?_
  refine s_bx 0 rfl rfl rfl ?_
  refine s_bx 1 rfl rfl rfl ?_
  refine s_bx 2 rfl rfl rfl ?_
  refine s_a tab_ok rfl ?_
  refine tops_nil ?_
  refine w_norm [3, 4, 5, 6] rfl rfl ?_
  refine twp_dseq follows  ?_
  iterate 4 (refine d_a [0, 1, 2] tab_ok rfl ?_)
  obtain ⟨r1, hr1, hm⟩ := bind_inv hm
  refine d_x [0, 1, 2] rfl rfl (rd_callRD rfl rfl rfl (ref21_Path_c hr1)) ?_
  obtain ⟨r2, hr2, hm⟩ := bind_inv hm
  refine d_x [0, 1, 2] rfl rfl (rd_callRN rfl rfl (snaps_cons (.d _) (snaps_cons (.d _) snaps_nil)) (ref22_oneOccupied_c hr2)) ?_
  refine d_a [0, 1, 2] tab_ok rfl ?_
  refine d_tail ?_ (by kernel_rfl)
  refine s_a tab_ok rfl ?_
  refine tops_nil ?_
  refine w_norm [8] rfl rfl ?_
  refine twp_ret ?_
  obtain rfl := Option.some.inj hm
  exact EndsS.one _ rfl (.d _) (.refl _)

theorem ref22_passed_c {p0 : Inputs} {p1 : Int} {r : Bool} (hm : ref22_passed p0 p1 = some r) : RetN Try.prog 54 [p0.enc, .int .i64 p1] (.bool (r)) := by
  refine .unit (ret_bodyS callB54 Try.func54 rfl Try.ntmps54 rfl rfl (fun wX gX => ?_)) rfl
  unfold ref22_passed at hm
  refine w_norm [0, 1] rfl rfl ?_
  refine twp_rseq ?_
  refine s_bx 0 rfl rfl rfl ?_
  refine s_a tab_ok rfl ?_
  refine tops_nil ?_
  refine w_norm [1, 2] rfl rfl ?_
  refine w_joinM hm (fun x1 => ([(4, .d (.bool (x1)))] : Fr)) (fun x1 => ([] : List (Nat × Blk))) [4] [] rfl (fun z2 hm => ?_) (fun x1 hm => ?_)
  · refine twp_region ?_
    iterate 3 (refine s_a tab_ok rfl ?_)
    refine s_x rfl rfl (x_len tab_ok rfl rfl rfl) ?_
    refine s_a tab_ok rfl ?_
    refine s_b tab_ok rfl (fun q3 hq3 => ?_)
    cases q3
    · replace hm := ite_F hq3 hm
      iterate 7 (refine s_a tab_ok rfl ?_)
      refine tops_nil ?_
      refine way_then ?_
      exact ⟨_, [0], (Option.some.inj hm).symm, rfl, k0, rfl⟩
    · replace hm := ite_T hq3 hm
      iterate 3 (refine s_a tab_ok rfl ?_)
      obtain ⟨e4, he4, hm⟩ := get_inv hm
      refine s_x rfl rfl (x_ix tab_ok rfl rfl rfl rfl he4) ?_
      iterate 3 (refine s_a tab_ok rfl ?_)
      refine tops_nil ?_
      refine way_then ?_
      exact ⟨_, [0], (Option.some.inj hm).symm, rfl, k0, rfl⟩
  · refine w_norm [4] rfl rfl ?_
    refine twp_ret ?_
    obtain rfl := Option.some.inj hm
    exact EndsS.one _ rfl (.d _) (.refl _)

theorem ref22_used_c {p0 : Table} {p1 : Inter} {p2 : Inputs} {p3 : Int} {r : RouteState} (hm : ref22_used p0 p1 p2 p3 = some r) : RetN Try.prog 33 [p0.enc, p1.enc, p2.enc, .int .i64 p3] (r.enc) := by
  refine .unit (ret_bodyS callB33 Try.func33 rfl Try.ntmps33 rfl rfl (fun wX gX => ?_)) rfl
  unfold ref22_used at hm
  refine w_norm [0, 1, 2, 3] rfl rfl ?_
  refine twp_rseq ?_
  refine s_bx 0 rfl rfl rfl ?_
  refine s_bx 1 rfl rfl rfl ?_
  refine s_bx 2 rfl rfl rfl ?_
  refine s_al 3 rfl rfl zero36 rfl ?_
  refine tops_nil ?_
  refine w_norm [3, 4, 5, 6, 8] rfl rfl ?_
  refine twp_dseq follows  ?_
  iterate 3 (refine d_a [0, 1, 2, 3] tab_ok rfl ?_)
  obtain ⟨e1, he1, hm⟩ := get_inv hm
  refine d_x [0, 1, 2, 3] rfl rfl (x_ix tab_ok rfl rfl rfl rfl he1) ?_
  iterate 5 (refine d_a [0, 1, 2, 3] tab_ok rfl ?_)
  obtain ⟨e2, he2, hm⟩ := get_inv hm
  refine d_x [0, 1, 2, 3] rfl rfl (x_ix tab_ok rfl rfl rfl rfl he2) ?_
  iterate 5 (refine d_a [0, 1, 2, 3] tab_ok rfl ?_)
  obtain ⟨e3, he3, hm⟩ := get_inv hm
  refine d_x [0, 1, 2, 3] rfl rfl (x_ix tab_ok rfl rfl rfl rfl he3) ?_
  iterate 4 (refine d_a [0, 1, 2, 3] tab_ok rfl ?_)
  refine d_tail ?_ (by kernel_rfl)
  refine s_a tab_ok rfl ?_
  refine tops_nil ?_
  refine w_norm [3, 4, 5, 6, 8, 9, 10, 11] rfl rfl ?_
  refine twp_rseq ?_
  refine s_a tab_ok rfl ?_
  refine s_x rfl rfl (x_len tab_ok rfl rfl rfl) ?_
  refine s_a tab_ok rfl ?_
  refine tops_nil ?_
  refine w_norm [3, 4, 5, 6, 8, 9, 10, 11, 12] rfl rfl ?_
  refine twp_seq ?_
  refine twp_block ?_
  refine twp_rseq ?_
  iterate 2 (refine s_a tab_ok rfl ?_)
  obtain ⟨r4, hr4, hm⟩ := bind_inv hm
  refine s_x rfl rfl (rd_callRN rfl rfl (snaps_cons (.d _) (snaps_cons (.d _) snaps_nil)) (ref22_claimed_c hr4)) ?_
  refine s_a tab_ok rfl ?_
  refine tops_nil ?_
  refine w_norm [3, 4, 5, 6, 8, 9, 10, 11, 12, 33] rfl rfl ?_
  refine twp_cond _ rfl (fun h5 => ?_) (fun h5 => ?_)
  · replace hm := iteB_T h5 hm
    refine twp_rseq ?_
    refine s_a tab_ok rfl ?_
    refine s_x rfl rfl (build_d rfl plc36 zero36 rfl rfl rfl rfl) ?_
    refine s_a tab_ok rfl ?_
    refine tops_nil ?_
    refine w_norm [8] rfl rfl ?_
    refine twp_ret ?_
    refine way_blockRet ?_
    refine way_thenRet ?_
    obtain rfl := Option.some.inj hm
    exact EndsS.cellR _ tab_ok rfl rfl rfl rfl rfl (.d _)
  · replace hm := iteB_F h5 hm
    refine w_joinM hm (fun x6 => ([(39, .d (.bool (x6)))] : Fr)) (fun x6 => ([] : List (Nat × Blk))) [39] [3, 6, 8, 9, 10, 11, 12] rfl (fun z7 hm => ?_) (fun x6 hm => ?_)
    · refine twp_region ?_
      iterate 2 (refine s_a tab_ok rfl ?_)
      obtain ⟨r8, hr8, hm⟩ := bind_inv hm
      refine s_x rfl rfl (rd_callRN rfl rfl (snaps_cons (.d _) (snaps_cons (.d _) snaps_nil)) (ref22_cancelled_c hr8)) ?_
      refine s_b tab_ok rfl (fun q9 hq9 => ?_)
      cases q9
      · replace hm := iteB_F hq9 hm
        iterate 7 (refine s_a tab_ok rfl ?_)
        refine tops_nil ?_
        refine way_then ?_
        exact ⟨_, [0, 1, 2, 3], (Option.some.inj hm).symm, rfl, k0, rfl⟩
      · replace hm := iteB_T hq9 hm
        iterate 4 (refine s_a tab_ok rfl ?_)
        obtain ⟨r10, hr10, hm⟩ := bind_inv hm
        refine s_x rfl rfl (rd_callRN rfl rfl (snaps_cons (.d _) (snaps_cons (.d _) (snaps_cons (.d _) (snaps_cons (.d _) snaps_nil)))) (ref22_Emptied_c hr10)) ?_
        iterate 2 (refine s_a tab_ok rfl ?_)
        refine tops_nil ?_
        refine way_then ?_
        exact ⟨_, [0, 1, 2, 3], (Option.some.inj hm).symm, rfl, k0, rfl⟩
    · refine w_norm [3, 6, 8, 9, 10, 11, 12, 39] rfl rfl ?_
      refine twp_cond _ rfl (fun h11 => ?_) (fun h11 => ?_)
      · replace hm := iteB_T h11 hm
        refine twp_rseq ?_
        refine s_a tab_ok rfl ?_
        refine s_x rfl rfl (build_d rfl plc36 zero36 rfl rfl rfl rfl) ?_
        refine s_a tab_ok rfl ?_
        refine tops_nil ?_
        refine w_norm [8] rfl rfl ?_
        refine twp_ret ?_
        refine way_blockRet ?_
        refine way_thenRet ?_
        obtain rfl := Option.some.inj hm
        exact EndsS.cellR _ tab_ok rfl rfl rfl rfl rfl (.d _)
      · replace hm := iteB_F h11 hm
        refine w_joinM hm (fun x12 => ([(52, .d (.bool (x12)))] : Fr)) (fun x12 => ([] : List (Nat × Blk))) [52] [8, 10, 11, 12] rfl (fun z13 hm => ?_) (fun x12 hm => ?_)
        · refine twp_draw follows  ?_
          iterate 3 (refine d_a [0, 1, 2, 3] tab_ok rfl ?_)
          obtain ⟨e14, he14, hm⟩ := get_inv hm
          refine d_x [0, 1, 2, 3] rfl rfl (x_ix tab_ok rfl rfl rfl rfl he14) ?_
          refine d_a [0, 1, 2, 3] tab_ok rfl ?_
          obtain ⟨r15, hr15, hm⟩ := bind_inv hm
          refine d_x [0, 1, 2, 3] rfl rfl (rd_callRN rfl rfl (snaps_cons (.d _) (snaps_cons (.d _) snaps_nil)) (ref22_Occupied_c hr15)) ?_
          refine d_a [0, 1, 2, 3] tab_ok rfl ?_
          refine d_b [0, 1, 2, 3] tab_ok rfl (fun q16 hq16 => ?_)
          cases q16
          · replace hm := iteB_F hq16 hm
            iterate 19 (refine d_a [0, 1, 2, 3] tab_ok rfl ?_)
            refine d_tail ?_ (by kernel_rfl)
            refine s_a tab_ok rfl ?_
            refine tops_nil ?_
            refine way_then ?_
            exact ⟨_, [0, 1, 2, 3], (Option.some.inj hm).symm, rfl, k0, rfl⟩
          · replace hm := iteB_T hq16 hm
            iterate 2 (refine d_a [0, 1, 2, 3] tab_ok rfl ?_)
            obtain ⟨g17, hm⟩ := guard_inv hm
            refine d_x [0, 1, 2, 3] rfl rfl (x_ar rfl rfl rfl rfl g17) ?_
            refine d_a [0, 1, 2, 3] tab_ok rfl ?_
            refine d_b [0, 1, 2, 3] tab_ok rfl (fun q18 hq18 => ?_)
            cases q18
            · replace hm := ite_F hq18 hm
              iterate 3 (refine d_a [0, 1, 2, 3] tab_ok rfl ?_)
              obtain ⟨g19, hm⟩ := guard_inv hm
              refine d_x [0, 1, 2, 3] rfl rfl (x_ar rfl rfl rfl rfl g19) ?_
              obtain ⟨e20, he20, hm⟩ := get_inv hm
              refine d_x [0, 1, 2, 3] rfl rfl (x_ix tab_ok rfl rfl rfl rfl he20) ?_
              refine d_a [0, 1, 2, 3] tab_ok rfl ?_
              obtain ⟨r21, hr21, hm⟩ := bind_inv hm
              refine d_x [0, 1, 2, 3] rfl rfl (rd_callRN rfl rfl (snaps_cons (.d _) (snaps_cons (.d _) snaps_nil)) (ref22_Occupied_c hr21)) ?_
              refine d_a [0, 1, 2, 3] tab_ok rfl ?_
              refine d_b [0, 1, 2, 3] tab_ok rfl (fun q22 hq22 => ?_)
              cases q22
              · replace hm := iteB_F hq22 hm
                iterate 2 (refine d_a [0, 1, 2, 3] tab_ok rfl ?_)
                obtain ⟨r23, hr23, hm⟩ := bind_inv hm
                refine d_x [0, 1, 2, 3] rfl rfl (rd_callRN rfl rfl (snaps_cons (.d _) (snaps_cons (.d _) snaps_nil)) (ref22_passed_c hr23)) ?_
                iterate 2 (refine d_a [0, 1, 2, 3] tab_ok rfl ?_)
                refine d_tail ?_ (by kernel_rfl)
                refine s_a tab_ok rfl ?_
                refine tops_nil ?_
                refine way_then ?_
                exact ⟨_, [0, 1, 2, 3], (Option.some.inj hm).symm, rfl, k0, rfl⟩
              · replace hm := iteB_T hq22 hm
                iterate 5 (refine d_a [0, 1, 2, 3] tab_ok rfl ?_)
                refine d_tail ?_ (by kernel_rfl)
                refine s_a tab_ok rfl ?_
                refine tops_nil ?_
                refine way_then ?_
                exact ⟨_, [0, 1, 2, 3], (Option.some.inj hm).symm, rfl, k0, rfl⟩
            · replace hm := ite_T hq18 hm
              iterate 14 (refine d_a [0, 1, 2, 3] tab_ok rfl ?_)
              refine d_tail ?_ (by kernel_rfl)
              refine s_a tab_ok rfl ?_
              refine tops_nil ?_
              refine way_then ?_
              exact ⟨_, [0, 1, 2, 3], (Option.some.inj hm).symm, rfl, k0, rfl⟩
        · refine w_norm [8, 10, 11, 12, 52] rfl rfl ?_
          refine twp_cond _ rfl (fun h24 => ?_) (fun h24 => ?_)
          · replace hm := iteB_T h24 hm
            refine twp_seq ?_
            refine twp_rseq ?_
            refine s_a tab_ok rfl ?_
            obtain ⟨g25, hm⟩ := guard_inv hm
            refine s_x rfl rfl (x_ar rfl rfl rfl rfl g25) ?_
            iterate 2 (refine s_a tab_ok rfl ?_)
            refine tops_nil ?_
            refine w_norm [8, 10, 83] rfl rfl ?_
            refine twp_cond _ rfl (fun h26 => ?_) (fun h26 => ?_)
            · replace hm := ite_T h26 hm
              refine twp_rseq ?_
              refine s_x rfl rfl (build_d rfl plc36 zero36 rfl rfl rfl rfl) ?_
              refine s_a tab_ok rfl ?_
              refine tops_nil ?_
              refine w_norm [8] rfl rfl ?_
              refine twp_ret ?_
              refine way_thenRet ?_
              refine way_blockRet ?_
              refine way_thenRet ?_
              obtain rfl := Option.some.inj hm
              exact EndsS.cellR _ tab_ok rfl rfl rfl rfl rfl (.d _)
            · replace hm := ite_F h26 hm
              refine twp_skip ?_
              refine way_then ?_
              refine w_norm [8, 10] rfl rfl ?_
              refine twp_rseq ?_
              refine s_a tab_ok rfl ?_
              obtain ⟨g27, hm⟩ := guard_inv hm
              refine s_x rfl rfl (x_ar rfl rfl rfl rfl g27) ?_
              refine s_x rfl rfl (build_d rfl plc36 zero36 rfl rfl rfl rfl) ?_
              refine s_a tab_ok rfl ?_
              refine tops_nil ?_
              refine w_norm [8] rfl rfl ?_
              refine twp_ret ?_
              refine way_blockRet ?_
              refine way_thenRet ?_
              obtain rfl := Option.some.inj hm
              exact EndsS.cellR _ tab_ok rfl rfl rfl rfl rfl (.d _)
          · replace hm := iteB_F h24 hm
            refine twp_rseq ?_
            iterate 2 (refine s_a tab_ok rfl ?_)
            obtain ⟨g28, hm⟩ := guard_inv hm
            refine s_x rfl rfl (x_ar rfl rfl rfl rfl g28) ?_
            iterate 2 (refine s_a tab_ok rfl ?_)
            refine tops_nil ?_
            refine w_norm [8, 10, 11, 88] rfl rfl ?_
            refine twp_cond _ rfl (fun h29 => ?_) (fun h29 => ?_)
            · replace hm := ite_T h29 hm
              refine twp_seq ?_
              refine twp_rseq ?_
              refine s_a tab_ok rfl ?_
              obtain ⟨g30, hm⟩ := guard_inv hm
              refine s_x rfl rfl (x_ar rfl rfl rfl rfl g30) ?_
              refine s_a tab_ok rfl ?_
              refine tops_nil ?_
              refine w_norm [8, 10, 11, 95] rfl rfl ?_
              refine twp_cond _ rfl (fun h31 => ?_) (fun h31 => ?_)
              · replace hm := ite_T h31 hm
                refine twp_rseq ?_
                refine s_x rfl rfl (build_d rfl plc36 zero36 rfl rfl rfl rfl) ?_
                refine s_a tab_ok rfl ?_
                refine tops_nil ?_
                refine w_norm [8] rfl rfl ?_
                refine twp_ret ?_
                refine way_thenRet ?_
                refine way_blockRet ?_
                refine way_thenRet ?_
                obtain rfl := Option.some.inj hm
                exact EndsS.cellR _ tab_ok rfl rfl rfl rfl rfl (.d _)
              · replace hm := ite_F h31 hm
                refine twp_skip ?_
                refine way_then ?_
                refine w_norm [8, 10, 11] rfl rfl ?_
                refine twp_rseq ?_
                iterate 2 (refine s_a tab_ok rfl ?_)
                obtain ⟨g32, hm⟩ := guard_inv hm
                refine s_x rfl rfl (x_ar rfl rfl rfl rfl g32) ?_
                refine s_x rfl rfl (build_d rfl plc36 zero36 rfl rfl rfl rfl) ?_
                refine s_a tab_ok rfl ?_
                refine tops_nil ?_
                refine w_norm [8] rfl rfl ?_
                refine twp_ret ?_
                refine way_blockRet ?_
                refine way_thenRet ?_
                obtain rfl := Option.some.inj hm
                exact EndsS.cellR _ tab_ok rfl rfl rfl rfl rfl (.d _)
            · replace hm := ite_F h29 hm
              refine twp_skip ?_
              refine way_block ?_
              refine way_then ?_
              refine w_norm [8, 10] rfl rfl ?_
              refine twp_rseq ?_
              refine s_a tab_ok rfl ?_
              refine s_x rfl rfl (build_d rfl plc36 zero36 rfl rfl rfl rfl) ?_
              refine s_a tab_ok rfl ?_
              refine tops_nil ?_
              refine w_norm [8] rfl rfl ?_
              refine twp_ret ?_
              obtain rfl := Option.some.inj hm
              exact EndsS.cellR _ tab_ok rfl rfl rfl rfl rfl (.d _)

theorem ref22_held_c {p0 : Table} {p1 : Inter} {p2 : Inputs} {p3 : Int} {r : RouteState} (hm : ref22_held p0 p1 p2 p3 = some r) : RetN Try.prog 34 [p0.enc, p1.enc, p2.enc, .int .i64 p3] (r.enc) := by
  refine .unit (ret_bodyS callB34 Try.func34 rfl Try.ntmps34 rfl rfl (fun wX gX => ?_)) rfl
  unfold ref22_held at hm
  refine w_norm [0, 1, 2, 3] rfl rfl ?_
  refine twp_rseq ?_
  refine s_bx 0 rfl rfl rfl ?_
  refine s_bx 1 rfl rfl rfl ?_
  refine s_bx 2 rfl rfl rfl ?_
  refine s_al 3 rfl rfl zero36 rfl ?_
  refine tops_nil ?_
  refine w_norm [3, 4, 5, 6, 8] rfl rfl ?_
  refine twp_dseq follows  ?_
  iterate 3 (refine d_a [0, 1, 2, 3] tab_ok rfl ?_)
  obtain ⟨e1, he1, hm⟩ := get_inv hm
  refine d_x [0, 1, 2, 3] rfl rfl (x_ix tab_ok rfl rfl rfl rfl he1) ?_
  iterate 5 (refine d_a [0, 1, 2, 3] tab_ok rfl ?_)
  obtain ⟨e2, he2, hm⟩ := get_inv hm
  refine d_x [0, 1, 2, 3] rfl rfl (x_ix tab_ok rfl rfl rfl rfl he2) ?_
  iterate 3 (refine d_a [0, 1, 2, 3] tab_ok rfl ?_)
  refine d_tail ?_ (by kernel_rfl)
  refine s_a tab_ok rfl ?_
  refine tops_nil ?_
  refine w_norm [3, 4, 5, 6, 8, 9, 10] rfl rfl ?_
  refine twp_seq ?_
  refine twp_block ?_
  refine twp_dseq follows  ?_
  iterate 4 (refine d_a [0, 1, 2, 3] tab_ok rfl ?_)
  obtain ⟨e3, he3, hm⟩ := get_inv hm
  refine d_x [0, 1, 2, 3] rfl rfl (x_ix tab_ok rfl rfl rfl rfl he3) ?_
  iterate 3 (refine d_a [0, 1, 2, 3] tab_ok rfl ?_)
  obtain ⟨e4, he4, hm⟩ := get_inv hm
  refine d_x [0, 1, 2, 3] rfl rfl (x_ix tab_ok rfl rfl rfl rfl he4) ?_
  refine d_a [0, 1, 2, 3] tab_ok rfl ?_
  obtain ⟨r5, hr5, hm⟩ := bind_inv hm
  refine d_x [0, 1, 2, 3] rfl rfl (rd_callRN rfl rfl (snaps_cons (.d _) (snaps_cons (.d _) snaps_nil)) (ref22_Occupied_c hr5)) ?_
  refine d_tail ?_ (by kernel_rfl)
  refine s_a tab_ok rfl ?_
  refine tops_nil ?_
  refine w_norm [3, 4, 5, 6, 8, 9, 10, 23] rfl rfl ?_
  refine twp_cond _ rfl (fun h6 => ?_) (fun h6 => ?_)
  · replace hm := iteB_T h6 hm
    refine twp_rseq ?_
    refine s_a tab_ok rfl ?_
    refine s_x rfl rfl (build_d rfl plc36 zero36 rfl rfl rfl rfl) ?_
    refine s_a tab_ok rfl ?_
    refine tops_nil ?_
    refine w_norm [8] rfl rfl ?_
    refine twp_ret ?_
    refine way_blockRet ?_
    refine way_thenRet ?_
    obtain rfl := Option.some.inj hm
    exact EndsS.cellR _ tab_ok rfl rfl rfl rfl rfl (.d _)
  · replace hm := iteB_F h6 hm
    refine w_joinM hm (fun x7 => ([(37, .d (.bool (x7)))] : Fr)) (fun x7 => ([] : List (Nat × Blk))) [37] [8, 9, 10] rfl (fun z8 hm => ?_) (fun x7 hm => ?_)
    · refine twp_region ?_
      iterate 2 (refine s_a tab_ok rfl ?_)
      obtain ⟨r9, hr9, hm⟩ := bind_inv hm
      refine s_x rfl rfl (rd_callRN rfl rfl (snaps_cons (.d _) (snaps_cons (.d _) snaps_nil)) (ref22_claimed_c hr9)) ?_
      refine s_b tab_ok rfl (fun q10 hq10 => ?_)
      cases q10
      · replace hm := iteB_F hq10 hm
        iterate 4 (refine s_a tab_ok rfl ?_)
        obtain ⟨r11, hr11, hm⟩ := bind_inv hm
        refine s_x rfl rfl (rd_callRN rfl rfl (snaps_cons (.d _) (snaps_cons (.d _) (snaps_cons (.d _) (snaps_cons (.d _) snaps_nil)))) (ref22_Emptied_c hr11)) ?_
        iterate 3 (refine s_a tab_ok rfl ?_)
        refine tops_nil ?_
        refine way_then ?_
        exact ⟨_, [0, 1, 2, 3], (Option.some.inj hm).symm, rfl, k0, rfl⟩
      · replace hm := iteB_T hq10 hm
        iterate 8 (refine s_a tab_ok rfl ?_)
        refine tops_nil ?_
        refine way_then ?_
        exact ⟨_, [0, 1, 2, 3], (Option.some.inj hm).symm, rfl, k0, rfl⟩
    · refine w_norm [8, 9, 10, 37] rfl rfl ?_
      refine twp_cond _ rfl (fun h12 => ?_) (fun h12 => ?_)
      · replace hm := iteB_T h12 hm
        refine twp_rseq ?_
        refine s_a tab_ok rfl ?_
        refine s_x rfl rfl (build_d rfl plc36 zero36 rfl rfl rfl rfl) ?_
        refine s_a tab_ok rfl ?_
        refine tops_nil ?_
        refine w_norm [8] rfl rfl ?_
        refine twp_ret ?_
        refine way_blockRet ?_
        refine way_thenRet ?_
        obtain rfl := Option.some.inj hm
        exact EndsS.cellR _ tab_ok rfl rfl rfl rfl rfl (.d _)
      · replace hm := iteB_F h12 hm
        refine twp_rseq ?_
        refine s_a tab_ok rfl ?_
        obtain ⟨g13, hm⟩ := guard_inv hm
        refine s_x rfl rfl (x_ar rfl rfl rfl rfl g13) ?_
        iterate 2 (refine s_a tab_ok rfl ?_)
        refine tops_nil ?_
        refine w_norm [8, 9, 10, 51] rfl rfl ?_
        refine twp_cond _ rfl (fun h14 => ?_) (fun h14 => ?_)
        · replace hm := ite_T h14 hm
          refine twp_rseq ?_
          refine s_x rfl rfl (build_d rfl plc36 zero36 rfl rfl rfl rfl) ?_
          refine s_a tab_ok rfl ?_
          refine tops_nil ?_
          refine w_norm [8] rfl rfl ?_
          refine twp_ret ?_
          refine way_blockRet ?_
          refine way_thenRet ?_
          obtain rfl := Option.some.inj hm
          exact EndsS.cellR _ tab_ok rfl rfl rfl rfl rfl (.d _)
        · replace hm := ite_F h14 hm
          refine twp_skip ?_
          refine way_block ?_
          refine way_then ?_
          refine w_norm [8, 9, 10] rfl rfl ?_
          refine twp_rseq ?_
          iterate 2 (refine s_a tab_ok rfl ?_)
          obtain ⟨g15, hm⟩ := guard_inv hm
          refine s_x rfl rfl (x_ar rfl rfl rfl rfl g15) ?_
          refine s_x rfl rfl (build_d rfl plc36 zero36 rfl rfl rfl rfl) ?_
          refine s_a tab_ok rfl ?_
          refine tops_nil ?_
          refine w_norm [8] rfl rfl ?_
          refine twp_ret ?_
          obtain rfl := Option.some.inj hm
          exact EndsS.cellR _ tab_ok rfl rfl rfl rfl rfl (.d _)

theorem ref22_Next_c {p0 : Table} {p1 : Inter} {p2 : Inputs} {p3 : Int} {r : RouteState} (hm : ref22_Next p0 p1 p2 p3 = some r) : RetN Try.prog 12 [p0.enc, p1.enc, p2.enc, .int .i64 p3] (r.enc) := by
  refine .unit (ret_bodyS callB12 Try.func12 rfl Try.ntmps12 rfl rfl (fun wX gX => ?_)) rfl
  unfold ref22_Next at hm
  refine w_norm [0, 1, 2, 3] rfl rfl ?_
  refine twp_rseq ?_
  refine s_bx 0 rfl rfl rfl ?_
  refine s_bx 1 rfl rfl rfl ?_
  refine s_bx 2 rfl rfl rfl ?_
  refine s_al 3 rfl rfl zero36 rfl ?_
  refine tops_nil ?_
  refine w_norm [3, 4, 5, 6, 8] rfl rfl ?_
  refine twp_seq ?_
  refine w_joinM hm (fun x1 => ([(23, .d (.bool (x1)))] : Fr)) (fun x1 => ([] : List (Nat × Blk))) [23] [3, 4, 5, 6, 8] rfl (fun z2 hm => ?_) (fun x1 hm => ?_)
  · refine twp_region ?_
    iterate 2 (refine s_a tab_ok rfl ?_)
    obtain ⟨r3, hr3, hm⟩ := bind_inv hm
    refine s_x rfl rfl (rd_callRN rfl rfl (snaps_cons (.d _) (snaps_cons (.d _) snaps_nil)) (ref21_Fits_c hr3)) ?_
    refine s_a tab_ok rfl ?_
    refine s_b tab_ok rfl (fun q4 hq4 => ?_)
    cases q4
    · replace hm := iteB_F hq4 hm
      iterate 3 (refine s_a tab_ok rfl ?_)
      refine s_b tab_ok rfl (fun q5 hq5 => ?_)
      cases q5
      · replace hm := ite_F hq5 hm
        iterate 3 (refine s_a tab_ok rfl ?_)
        refine s_x rfl rfl (x_len tab_ok rfl rfl rfl) ?_
        iterate 2 (refine s_a tab_ok rfl ?_)
        refine tops_nil ?_
        refine way_then ?_
        exact ⟨_, [0, 1, 2, 3], (Option.some.inj hm).symm, rfl, k0, rfl⟩
      · replace hm := ite_T hq5 hm
        iterate 6 (refine s_a tab_ok rfl ?_)
        refine tops_nil ?_
        refine way_then ?_
        exact ⟨_, [0, 1, 2, 3], (Option.some.inj hm).symm, rfl, k0, rfl⟩
    · replace hm := iteB_T hq4 hm
      iterate 10 (refine s_a tab_ok rfl ?_)
      refine tops_nil ?_
      refine way_then ?_
      exact ⟨_, [0, 1, 2, 3], (Option.some.inj hm).symm, rfl, k0, rfl⟩
  · refine w_norm [3, 4, 5, 6, 8, 23] rfl rfl ?_
    refine twp_cond _ rfl (fun h6 => ?_) (fun h6 => ?_)
    · replace hm := iteB_T h6 hm
      refine twp_rseq ?_
      refine s_x rfl rfl (build_d rfl plc36 zero36 rfl rfl rfl rfl) ?_
      refine s_a tab_ok rfl ?_
      refine tops_nil ?_
      refine w_norm [8] rfl rfl ?_
      refine twp_ret ?_
      refine way_thenRet ?_
      obtain rfl := Option.some.inj hm
      exact EndsS.cellR _ tab_ok rfl rfl rfl rfl rfl (.d _)
    · replace hm := iteB_F h6 hm
      refine twp_skip ?_
      refine way_then ?_
      refine w_norm [3, 4, 5, 6, 8] rfl rfl ?_
      refine twp_seq ?_
      refine twp_rseq ?_
      iterate 3 (refine s_a tab_ok rfl ?_)
      obtain ⟨e7, he7, hm⟩ := get_inv hm
      refine s_x rfl rfl (x_ix tab_ok rfl rfl rfl rfl he7) ?_
      iterate 2 (refine s_a tab_ok rfl ?_)
      refine tops_nil ?_
      refine w_norm [3, 4, 5, 6, 8, 30] rfl rfl ?_
      refine twp_block ?_
      refine twp_rseq ?_
      iterate 2 (refine s_a tab_ok rfl ?_)
      refine tops_nil ?_
      refine w_norm [3, 4, 5, 6, 8, 30, 31] rfl rfl ?_
      refine twp_cond _ rfl (fun h8 => ?_) (fun h8 => ?_)
      · replace hm := ite_T h8 hm
        refine twp_seq ?_
        refine twp_rseq ?_
        iterate 2 (refine s_a tab_ok rfl ?_)
        obtain ⟨r9, hr9, hm⟩ := bind_inv hm
        refine s_x rfl rfl (rd_callRN rfl rfl (snaps_cons (.d _) (snaps_cons (.d _) snaps_nil)) (ref22_cancelled_c hr9)) ?_
        refine tops_nil ?_
        refine w_norm [3, 4, 6, 8, 35] rfl rfl ?_
        refine twp_cond _ rfl (fun h10 => ?_) (fun h10 => ?_)
        · replace hm := iteB_T h10 hm
          refine twp_rseq ?_
          refine s_x rfl rfl (build_d rfl plc36 zero36 rfl rfl rfl rfl) ?_
          refine s_a tab_ok rfl ?_
          refine tops_nil ?_
          refine w_norm [8] rfl rfl ?_
          refine twp_ret ?_
          refine way_thenRet ?_
          refine way_blockRet ?_
          refine way_thenRet ?_
          obtain rfl := Option.some.inj hm
          exact EndsS.cellR _ tab_ok rfl rfl rfl rfl rfl (.d _)
        · replace hm := iteB_F h10 hm
          refine twp_skip ?_
          refine way_then ?_
          refine w_norm [3, 4, 6, 8] rfl rfl ?_
          refine twp_seq ?_
          refine twp_rseq ?_
          iterate 3 (refine s_a tab_ok rfl ?_)
          obtain ⟨r11, hr11, hm⟩ := bind_inv hm
          refine s_x rfl rfl (rd_callRN rfl rfl (snaps_cons (.d _) (snaps_cons (.d _) (snaps_cons (.d _) snaps_nil))) (ref22_Proved_c hr11)) ?_
          refine tops_nil ?_
          refine w_norm [8, 40] rfl rfl ?_
          refine twp_cond _ rfl (fun h12 => ?_) (fun h12 => ?_)
          · replace hm := iteB_T h12 hm
            refine twp_rseq ?_
            refine s_x rfl rfl (build_d rfl plc36 zero36 rfl rfl rfl rfl) ?_
            refine s_a tab_ok rfl ?_
            refine tops_nil ?_
            refine w_norm [8] rfl rfl ?_
            refine twp_ret ?_
            refine way_thenRet ?_
            refine way_blockRet ?_
            refine way_thenRet ?_
            obtain rfl := Option.some.inj hm
            exact EndsS.cellR _ tab_ok rfl rfl rfl rfl rfl (.d _)
          · replace hm := iteB_F h12 hm
            refine twp_skip ?_
            refine way_then ?_
            refine w_norm [8] rfl rfl ?_
            refine twp_rseq ?_
            refine s_x rfl rfl (build_d rfl plc36 zero36 rfl rfl rfl rfl) ?_
            refine s_a tab_ok rfl ?_
            refine tops_nil ?_
            refine w_norm [8] rfl rfl ?_
            refine twp_ret ?_
            refine way_blockRet ?_
            refine way_thenRet ?_
            obtain rfl := Option.some.inj hm
            exact EndsS.cellR _ tab_ok rfl rfl rfl rfl rfl (.d _)
      · replace hm := ite_F h8 hm
        refine twp_rseq ?_
        iterate 2 (refine s_a tab_ok rfl ?_)
        refine tops_nil ?_
        refine w_norm [3, 4, 5, 6, 8, 30, 43] rfl rfl ?_
        refine twp_cond _ rfl (fun h13 => ?_) (fun h13 => ?_)
        · replace hm := ite_T h13 hm
          refine twp_rseq ?_
          iterate 3 (refine s_a tab_ok rfl ?_)
          obtain ⟨r14, hr14, hm⟩ := bind_inv hm
          refine s_x rfl rfl (rd_callRN rfl rfl (snaps_cons (.d _) (snaps_cons (.d _) (snaps_cons (.d _) snaps_nil))) (ref22_cleared_c hr14)) ?_
          refine s_a tab_ok rfl ?_
          refine tops_nil ?_
          refine w_norm [8] rfl rfl ?_
          refine twp_ret ?_
          refine way_blockRet ?_
          refine way_thenRet ?_
          obtain rfl := Option.some.inj hm
          exact EndsS.cellR _ tab_ok rfl rfl rfl rfl rfl (.d _)
        · replace hm := ite_F h13 hm
          refine twp_rseq ?_
          iterate 2 (refine s_a tab_ok rfl ?_)
          refine tops_nil ?_
          refine w_norm [3, 4, 5, 6, 8, 30, 49] rfl rfl ?_
          refine twp_cond _ rfl (fun h15 => ?_) (fun h15 => ?_)
          · replace hm := ite_T h15 hm
            refine twp_rseq ?_
            iterate 4 (refine s_a tab_ok rfl ?_)
            obtain ⟨r16, hr16, hm⟩ := bind_inv hm
            refine s_x rfl rfl (rd_callRN rfl rfl (snaps_cons (.d _) (snaps_cons (.d _) (snaps_cons (.d _) (snaps_cons (.d _) snaps_nil)))) (ref22_used_c hr16)) ?_
            refine s_a tab_ok rfl ?_
            refine tops_nil ?_
            refine w_norm [8] rfl rfl ?_
            refine twp_ret ?_
            refine way_blockRet ?_
            refine way_thenRet ?_
            obtain rfl := Option.some.inj hm
            exact EndsS.cellR _ tab_ok rfl rfl rfl rfl rfl (.d _)
          · replace hm := ite_F h15 hm
            refine twp_rseq ?_
            iterate 2 (refine s_a tab_ok rfl ?_)
            refine tops_nil ?_
            refine w_norm [3, 4, 5, 6, 8, 56] rfl rfl ?_
            refine twp_cond _ rfl (fun h17 => ?_) (fun h17 => ?_)
            · replace hm := ite_T h17 hm
              refine twp_rseq ?_
              iterate 4 (refine s_a tab_ok rfl ?_)
              obtain ⟨r18, hr18, hm⟩ := bind_inv hm
              refine s_x rfl rfl (rd_callRN rfl rfl (snaps_cons (.d _) (snaps_cons (.d _) (snaps_cons (.d _) (snaps_cons (.d _) snaps_nil)))) (ref22_held_c hr18)) ?_
              refine s_a tab_ok rfl ?_
              refine tops_nil ?_
              refine w_norm [8] rfl rfl ?_
              refine twp_ret ?_
              refine way_blockRet ?_
              refine way_thenRet ?_
              obtain rfl := Option.some.inj hm
              exact EndsS.cellR _ tab_ok rfl rfl rfl rfl rfl (.d _)
            · replace hm := ite_F h17 hm
              refine twp_skip ?_
              refine way_block ?_
              refine way_then ?_
              refine w_norm [8] rfl rfl ?_
              refine twp_rseq ?_
              refine s_x rfl rfl (build_d rfl plc36 zero36 rfl rfl rfl rfl) ?_
              refine s_a tab_ok rfl ?_
              refine tops_nil ?_
              refine w_norm [8] rfl rfl ?_
              refine twp_ret ?_
              obtain rfl := Option.some.inj hm
              exact EndsS.cellR _ tab_ok rfl rfl rfl rfl rfl (.d _)

end Go.Proofs.Ytkhdhopgiooloaa

set_option maxHeartbeats 8000000
set_option linter.unusedSimpArgs false
set_option linter.unusedVariables false
set_option maxRecDepth 20000
namespace Go.Proofs.Ytkhdhopgiooloaa
open Go Go.TL

theorem law22_ProgressNext_w {p0 : Table} {p1 : Inter} {p2 : Inputs} {p3 : Int} {r : Bool} (hm : law22_ProgressNext p0 p1 p2 p3 = some r) : Ret Try.prog 3 [] (fun _ => false) ([p0.enc, p1.enc, p2.enc, .int .i64 p3].map .d) (.d (.bool (r))) [] := by
  refine ret_bodyS callB3 Try.func3 rfl Try.ntmps3 rfl rfl (fun wX gX => ?_)
  unfold law22_ProgressNext at hm
  refine w_norm [0, 1, 2, 3] rfl rfl ?_
  refine twp_rseq ?_
  refine s_bx 0 rfl rfl rfl ?_
  refine s_bx 1 rfl rfl rfl ?_
  refine s_bx 2 rfl rfl rfl ?_
  refine s_a tab_ok rfl ?_
  refine tops_nil ?_
  refine w_norm [3, 4, 5, 6] rfl rfl ?_
  refine twp_seq ?_
  refine w_joinM hm (fun x1 => ([(17, .d (.bool (x1)))] : Fr)) (fun x1 => ([] : List (Nat × Blk))) [17] [3, 4, 5, 6] rfl (fun z2 hm => ?_) (fun x1 hm => ?_)
  · refine twp_region ?_
    iterate 2 (refine s_a tab_ok rfl ?_)
    obtain ⟨r3, hr3, hm⟩ := bind_inv hm
    refine s_x rfl rfl (rd_callRN rfl rfl (snaps_cons (.d _) (snaps_cons (.d _) snaps_nil)) (law21_Small_c hr3)) ?_
    refine s_a tab_ok rfl ?_
    refine s_b tab_ok rfl (fun q4 hq4 => ?_)
    cases q4
    · replace hm := iteB_F hq4 hm
      refine s_a tab_ok rfl ?_
      obtain ⟨r5, hr5, hm⟩ := bind_inv hm
      refine s_x rfl rfl (rd_callRN rfl rfl (snaps_cons (.d _) snaps_nil) (law22_Few_c hr5)) ?_
      iterate 2 (refine s_a tab_ok rfl ?_)
      refine tops_nil ?_
      refine way_then ?_
      exact ⟨_, [0, 1, 2], (Option.some.inj hm).symm, rfl, k0, rfl⟩
    · replace hm := iteB_T hq4 hm
      iterate 4 (refine s_a tab_ok rfl ?_)
      refine tops_nil ?_
      refine way_then ?_
      exact ⟨_, [0, 1, 2], (Option.some.inj hm).symm, rfl, k0, rfl⟩
  · refine w_norm [3, 4, 5, 6, 17] rfl rfl ?_
    refine twp_cond _ rfl (fun h6 => ?_) (fun h6 => ?_)
    · replace hm := iteB_T h6 hm
      refine twp_rseq ?_
      obtain ⟨r7, hr7, hm⟩ := bind_inv hm
      refine s_x rfl rfl (rd_callRN rfl rfl snaps_nil (law22_alive_c hr7)) ?_
      refine s_a tab_ok rfl ?_
      refine tops_nil ?_
      refine w_norm [8] rfl rfl ?_
      refine twp_ret ?_
      refine way_thenRet ?_
      obtain rfl := Option.some.inj hm
      exact EndsS.one _ rfl (.d _) (.refl _)
    · replace hm := iteB_F h6 hm
      refine twp_skip ?_
      refine way_then ?_
      refine w_norm [3, 4, 5, 6] rfl rfl ?_
      refine w_joinM hm (fun x8 => ([(8, .d (.bool (x8)))] : Fr)) (fun x8 => ([] : List (Nat × Blk))) [8] [] rfl (fun z9 hm => ?_) (fun x8 hm => ?_)
      · refine twp_draw follows  ?_
        iterate 4 (refine d_a [0, 1, 2] tab_ok rfl ?_)
        obtain ⟨r10, hr10, hm⟩ := bind_inv hm
        refine d_x [0, 1, 2] rfl rfl (rd_callRN rfl rfl (snaps_cons (.d _) (snaps_cons (.d _) (snaps_cons (.d _) (snaps_cons (.d _) snaps_nil)))) (progress_Next_c hr10)) ?_
        iterate 4 (refine d_a [0, 1, 2] tab_ok rfl ?_)
        obtain ⟨r11, hr11, hm⟩ := bind_inv hm
        refine d_x [0, 1, 2] rfl rfl (rd_callRN rfl rfl (snaps_cons (.d _) (snaps_cons (.d _) (snaps_cons (.d _) (snaps_cons (.d _) snaps_nil)))) (ref22_Next_c hr11)) ?_
        obtain ⟨g12, hm⟩ := guard_inv hm
        refine d_x [0, 1, 2] rfl rfl (RouteState_eq rfl rfl rfl g12.1 g12.2) ?_
        refine d_b [0, 1, 2] tab_ok rfl (fun q14 hq14 => ?_)
        cases q14
        · replace hm := ite_F hq14 hm
          iterate 2 (refine d_a [0, 1, 2] tab_ok rfl ?_)
          refine d_tail ?_ (by kernel_rfl)
          refine s_a tab_ok rfl ?_
          refine tops_nil ?_
          refine way_then ?_
          exact ⟨_, [0, 1, 2], (Option.some.inj hm).symm, rfl, k0, rfl⟩
        · replace hm := ite_T hq14 hm
          obtain ⟨r15, hr15, hm⟩ := bind_inv hm
          refine d_x [0, 1, 2] rfl rfl (rd_callRN rfl rfl snaps_nil (law22_alive_c hr15)) ?_
          refine d_a [0, 1, 2] tab_ok rfl ?_
          refine d_tail ?_ (by kernel_rfl)
          refine s_a tab_ok rfl ?_
          refine tops_nil ?_
          refine way_then ?_
          exact ⟨_, [0, 1, 2], (Option.some.inj hm).symm, rfl, k0, rfl⟩
      · refine w_norm [8] rfl rfl ?_
        refine twp_ret ?_
        obtain rfl := Option.some.inj hm
        exact EndsS.one _ rfl (.d _) (.refl _)

theorem law22_ProgressHolds_w {p0 : Table} {p1 : Inter} {p2 : Inputs} {p3 : Int} {r : Bool} (hm : law22_ProgressHolds p0 p1 p2 p3 = some r) : Ret Try.prog 4 [] (fun _ => false) ([p0.enc, p1.enc, p2.enc, .int .i64 p3].map .d) (.d (.bool (r))) [] := by
  refine ret_bodyS callB4 Try.func4 rfl Try.ntmps4 rfl rfl (fun wX gX => ?_)
  unfold law22_ProgressHolds at hm
  refine w_norm [0, 1, 2, 3] rfl rfl ?_
  refine twp_rseq ?_
  refine s_bx 0 rfl rfl rfl ?_
  refine s_bx 1 rfl rfl rfl ?_
  refine s_bx 2 rfl rfl rfl ?_
  refine s_a tab_ok rfl ?_
  refine tops_nil ?_
  refine w_norm [3, 4, 5, 6] rfl rfl ?_
  refine twp_seq ?_
  refine w_joinM hm (fun x1 => ([(51, .d (.bool (x1)))] : Fr)) (fun x1 => ([] : List (Nat × Blk))) [51] [3, 4, 5, 6] rfl (fun z2 hm => ?_) (fun x1 hm => ?_)
  · refine twp_region ?_
    iterate 2 (refine s_a tab_ok rfl ?_)
    obtain ⟨r3, hr3, hm⟩ := bind_inv hm
    refine s_x rfl rfl (rd_callRN rfl rfl (snaps_cons (.d _) (snaps_cons (.d _) snaps_nil)) (law21_Small_c hr3)) ?_
    refine s_a tab_ok rfl ?_
    refine s_b tab_ok rfl (fun q4 hq4 => ?_)
    cases q4
    · replace hm := iteB_F hq4 hm
      refine s_a tab_ok rfl ?_
      obtain ⟨r5, hr5, hm⟩ := bind_inv hm
      refine s_x rfl rfl (rd_callRN rfl rfl (snaps_cons (.d _) snaps_nil) (law22_Few_c hr5)) ?_
      iterate 2 (refine s_a tab_ok rfl ?_)
      refine s_b tab_ok rfl (fun q6 hq6 => ?_)
      cases q6
      · replace hm := iteB_F hq6 hm
        iterate 2 (refine s_a tab_ok rfl ?_)
        obtain ⟨r7, hr7, hm⟩ := bind_inv hm
        refine s_x rfl rfl (rd_callRN rfl rfl (snaps_cons (.d _) (snaps_cons (.d _) snaps_nil)) (ref21_Fits_c hr7)) ?_
        iterate 2 (refine s_a tab_ok rfl ?_)
        refine s_b tab_ok rfl (fun q8 hq8 => ?_)
        cases q8
        · replace hm := iteB_F hq8 hm
          iterate 3 (refine s_a tab_ok rfl ?_)
          refine s_b tab_ok rfl (fun q9 hq9 => ?_)
          cases q9
          · replace hm := ite_F hq9 hm
            iterate 3 (refine s_a tab_ok rfl ?_)
            refine s_x rfl rfl (x_len tab_ok rfl rfl rfl) ?_
            iterate 2 (refine s_a tab_ok rfl ?_)
            refine s_b tab_ok rfl (fun q10 hq10 => ?_)
            cases q10
            · replace hm := ite_F hq10 hm
              iterate 3 (refine s_a tab_ok rfl ?_)
              refine s_x rfl rfl (x_len tab_ok rfl rfl rfl) ?_
              refine s_a tab_ok rfl ?_
              refine s_b tab_ok rfl (fun q11 hq11 => ?_)
              cases q11
              · replace hm := ite_F hq11 hm
                iterate 8 (refine s_a tab_ok rfl ?_)
                refine tops_nil ?_
                refine way_then ?_
                exact ⟨_, [0, 1, 2], (Option.some.inj hm).symm, rfl, k0, rfl⟩
              · replace hm := ite_T hq11 hm
                iterate 3 (refine s_a tab_ok rfl ?_)
                obtain ⟨e12, he12, hm⟩ := get_inv hm
                refine s_x rfl rfl (x_ix tab_ok rfl rfl rfl rfl he12) ?_
                iterate 4 (refine s_a tab_ok rfl ?_)
                refine tops_nil ?_
                refine way_then ?_
                exact ⟨_, [0, 1, 2], (Option.some.inj hm).symm, rfl, k0, rfl⟩
            · replace hm := ite_T hq10 hm
              iterate 14 (refine s_a tab_ok rfl ?_)
              refine tops_nil ?_
              refine way_then ?_
              exact ⟨_, [0, 1, 2], (Option.some.inj hm).symm, rfl, k0, rfl⟩
          · replace hm := ite_T hq9 hm
            iterate 21 (refine s_a tab_ok rfl ?_)
            refine tops_nil ?_
            refine way_then ?_
            exact ⟨_, [0, 1, 2], (Option.some.inj hm).symm, rfl, k0, rfl⟩
        · replace hm := iteB_T hq8 hm
          iterate 25 (refine s_a tab_ok rfl ?_)
          refine tops_nil ?_
          refine way_then ?_
          exact ⟨_, [0, 1, 2], (Option.some.inj hm).symm, rfl, k0, rfl⟩
      · replace hm := iteB_T hq6 hm
        iterate 31 (refine s_a tab_ok rfl ?_)
        refine tops_nil ?_
        refine way_then ?_
        exact ⟨_, [0, 1, 2], (Option.some.inj hm).symm, rfl, k0, rfl⟩
    · replace hm := iteB_T hq4 hm
      iterate 36 (refine s_a tab_ok rfl ?_)
      refine tops_nil ?_
      refine way_then ?_
      exact ⟨_, [0, 1, 2], (Option.some.inj hm).symm, rfl, k0, rfl⟩
  · refine w_norm [3, 4, 5, 6, 51] rfl rfl ?_
    refine twp_cond _ rfl (fun h13 => ?_) (fun h13 => ?_)
    · replace hm := iteB_T h13 hm
      refine twp_rseq ?_
      obtain ⟨r14, hr14, hm⟩ := bind_inv hm
      refine s_x rfl rfl (rd_callRN rfl rfl snaps_nil (law22_alive_c hr14)) ?_
      refine s_a tab_ok rfl ?_
      refine tops_nil ?_
      refine w_norm [8] rfl rfl ?_
      refine twp_ret ?_
      refine way_thenRet ?_
      obtain rfl := Option.some.inj hm
      exact EndsS.one _ rfl (.d _) (.refl _)
    · replace hm := iteB_F h13 hm
      refine twp_skip ?_
      refine way_then ?_
      refine w_norm [3, 4, 5, 6] rfl rfl ?_
      refine twp_rseq ?_
      iterate 3 (refine s_a tab_ok rfl ?_)
      obtain ⟨e15, he15, hm⟩ := get_inv hm
      refine s_x rfl rfl (x_ix tab_ok rfl rfl rfl rfl he15) ?_
      refine s_a tab_ok rfl ?_
      refine s_al 3 rfl rfl zero36 rfl ?_
      refine s_a tab_ok rfl ?_
      refine tops_nil ?_
      refine w_norm [3, 4, 5, 6, 9] rfl rfl ?_
      refine twp_seq ?_
      refine w_cut [(65, .d (.bool (((decide (e15.state = (0 : Int))) || (decide (e15.state = (1 : Int)))))))] [65] [3, 4, 5, 6, 9] rfl ?_ ?_
      · refine twp_region ?_
        iterate 3 (refine s_a tab_ok rfl ?_)
        refine s_b tab_ok rfl (fun q16 hq16 => ?_)
        cases q16
        · iterate 4 (refine s_a tab_ok rfl ?_)
          refine tops_nil ?_
          refine way_then ?_
          exact ⟨[0, 1, 2, 3], rfl, k0, st_eq (fr_cons (av_bool (by simp [hq16])) rfl) rfl⟩
        · iterate 4 (refine s_a tab_ok rfl ?_)
          refine tops_nil ?_
          refine way_then ?_
          exact ⟨[0, 1, 2, 3], rfl, k0, st_eq (fr_cons (av_bool (by simp [hq16])) rfl) rfl⟩
      · refine w_norm [3, 4, 5, 6, 9, 65] rfl rfl ?_
        refine twp_cond _ rfl (fun h17 => ?_) (fun h17 => ?_)
        · replace hm := iteB_T h17 hm
          refine twp_rseq ?_
          obtain ⟨r18, hr18, hm⟩ := bind_inv hm
          refine s_x rfl rfl (rd_callRN rfl rfl snaps_nil (law22_alive_c hr18)) ?_
          refine s_a tab_ok rfl ?_
          refine tops_nil ?_
          refine w_norm [8] rfl rfl ?_
          refine twp_ret ?_
          refine way_thenRet ?_
          obtain rfl := Option.some.inj hm
          exact EndsS.one _ rfl (.d _) (.refl _)
        · replace hm := iteB_F h17 hm
          refine twp_skip ?_
          refine way_then ?_
          refine w_norm [3, 4, 5, 6, 9] rfl rfl ?_
          refine twp_rseq ?_
          iterate 4 (refine s_a tab_ok rfl ?_)
          obtain ⟨r19, hr19, hm⟩ := bind_inv hm
          refine s_x rfl rfl (rd_callRN rfl rfl (snaps_cons (.d _) (snaps_cons (.d _) (snaps_cons (.d _) (snaps_cons (.d _) snaps_nil)))) (progress_Next_c hr19)) ?_
          refine s_al 4 rfl rfl zero36 rfl ?_
          refine s_a tab_ok rfl ?_
          refine tops_nil ?_
          refine w_norm [9, 10] rfl rfl ?_
          refine w_joinM hm (fun x20 => ([(8, .d (.bool (x20)))] : Fr)) (fun x20 => ([] : List (Nat × Blk))) [8] [] rfl (fun z21 hm => ?_) (fun x20 hm => ?_)
          · refine twp_region ?_
            iterate 3 (refine s_a tab_ok rfl ?_)
            refine s_b tab_ok rfl (fun q22 hq22 => ?_)
            cases q22
            · replace hm := ite_F hq22 hm
              iterate 10 (refine s_a tab_ok rfl ?_)
              refine tops_nil ?_
              refine way_then ?_
              exact ⟨_, [0, 1, 2, 3, 4], (Option.some.inj hm).symm, rfl, k0, rfl⟩
            · replace hm := ite_T hq22 hm
              iterate 6 (refine s_a tab_ok rfl ?_)
              refine s_b tab_ok rfl (fun q23 hq23 => ?_)
              cases q23
              · replace hm := ite_F hq23 hm
                iterate 3 (refine s_a tab_ok rfl ?_)
                refine tops_nil ?_
                refine way_then ?_
                exact ⟨_, [0, 1, 2, 3, 4], (Option.some.inj hm).symm, rfl, k0, rfl⟩
              · replace hm := ite_T hq23 hm
                obtain ⟨r24, hr24, hm⟩ := bind_inv hm
                refine s_x rfl rfl (rd_callRN rfl rfl snaps_nil (law22_alive_c hr24)) ?_
                iterate 2 (refine s_a tab_ok rfl ?_)
                refine tops_nil ?_
                refine way_then ?_
                exact ⟨_, [0, 1, 2, 3, 4], (Option.some.inj hm).symm, rfl, k0, rfl⟩
          · refine w_norm [8] rfl rfl ?_
            refine twp_ret ?_
            obtain rfl := Option.some.inj hm
            exact EndsS.one _ rfl (.d _) (.refl _)

theorem ref21_has_c {p0 : (List Setting)} {p1 : Setting} {r : Bool} (hm : ref21_has p0 p1 = some r) : RetN Try.prog 59 [.sl 2 (p0.map Setting.enc), p1.enc] (.bool (r)) := by
  refine .unit (ret_bodyS callB59 Try.func59 rfl Try.ntmps59 rfl rfl (fun wX gX => ?_)) rfl
  unfold ref21_has at hm
  refine w_norm [0, 1] rfl rfl ?_
  refine twp_rseq ?_
  refine s_bx 0 rfl rfl rfl ?_
  refine s_a tab_ok rfl ?_
  refine tops_nil ?_
  refine w_norm [0, 3] rfl rfl ?_
  refine w_joinS hm (fun _ => ([] : Fr)) (fun _ => ([] : List (Nat × Blk))) [] [] rfl (fun z1 hm hz1 => ?_) (fun j hm => ?_)
  · refine twp_rseq ?_
    refine s_a tab_ok rfl ?_
    refine tops_nil ?_
    refine w_norm [0, 3, 5] rfl rfl ?_
    refine twp_block ?_
    refine w_loop hm (fun i3 => ([(5, .d (.int .i64 i3))] : Fr)) (fun i3 => ([] : List (Nat × Blk))) [5] [0, 3] [0] rfl k0 rfl rfl rfl rfl rfl (fun i3 z4 hm hz4 => ?_)
    refine w_norm [0, 3, 5] rfl rfl ?_
    refine twp_seq ?_
    refine twp_rseq ?_
    iterate 2 (refine s_a tab_ok rfl ?_)
    refine s_x rfl rfl (x_len tab_ok rfl rfl rfl) ?_
    refine s_a tab_ok rfl ?_
    refine tops_nil ?_
    refine w_norm [0, 3, 5, 9] rfl rfl ?_
    refine twp_cond _ rfl (fun h5 => ?_) (fun h5 => ?_)
    · replace hm := ite_T h5 hm
      refine twp_skip ?_
      refine way_then ?_
      refine w_norm [0, 3, 5] rfl rfl ?_
      refine twp_seq ?_
      refine twp_block ?_
      refine twp_dseq follows  ?_
      iterate 2 (refine d_a [0] tab_ok rfl ?_)
      obtain ⟨e6, he6, hm⟩ := get_inv hm
      refine d_x [0] rfl rfl (x_ix tab_ok rfl rfl rfl rfl he6) ?_
      iterate 2 (refine d_a [0] tab_ok rfl ?_)
      obtain ⟨g7, hm⟩ := guard_inv hm
      refine d_x [0] rfl rfl (Setting_eq rfl rfl rfl g7.1 g7.2) ?_
      refine d_tail ?_ (by kernel_rfl)
      refine tops_nil ?_
      refine w_norm [0, 3, 5, 17] rfl rfl ?_
      refine twp_cond _ rfl (fun h9 => ?_) (fun h9 => ?_)
      · replace hm := ite_T h9 hm
        refine twp_rseq ?_
        refine s_a tab_ok rfl ?_
        refine tops_nil ?_
        refine w_norm [4] rfl rfl ?_
        refine twp_ret ?_
        refine way_blockRet ?_
        refine way_thenRet ?_
        obtain ⟨v10, hm, hz⟩ := inr_inv hm
        rw [hz4 _ hz] at hm
        refine way_thenRet ?_
        refine way_blockRet ?_
        obtain ⟨v11, hm, hz⟩ := inr_inv hm
        rw [hz1 _ hz] at hm
        refine way_thenRet ?_
        obtain rfl := Option.some.inj hm
        exact EndsS.one _ rfl (.d _) (.refl _)
      · replace hm := ite_F h9 hm
        refine twp_skip ?_
        refine way_block ?_
        refine way_then ?_
        refine w_norm [0, 3, 5] rfl rfl ?_
        refine twp_region ?_
        refine s_a tab_ok rfl ?_
        obtain ⟨g12, hm⟩ := guard_inv hm
        refine s_x rfl rfl (x_ar rfl rfl rfl rfl g12) ?_
        refine s_a tab_ok rfl ?_
        refine tops_nil ?_
        refine way_then ?_
        exact ⟨_, [0], (Option.some.inj hm).symm, rfl, k0, rfl⟩
    · replace hm := ite_F h5 hm
      refine twp_exit ?_
      refine way_thenExit ?_
      obtain ⟨v13, hm, hz⟩ := inr_inv hm
      rw [hz4 _ hz] at hm
      refine way_thenExit ?_
      refine way_here ?_
      refine way_then ?_
      exact ⟨_, [0], (Option.some.inj hm).symm, rfl, k0, rfl⟩
  · refine w_norm [] rfl rfl ?_
    refine twp_rseq ?_
    refine s_a tab_ok rfl ?_
    refine tops_nil ?_
    refine w_norm [4] rfl rfl ?_
    refine twp_ret ?_
    obtain rfl := Option.some.inj hm
    exact EndsS.one _ rfl (.d _) (.refl _)

theorem ref21_bound_c {p0 : Table} {p1 : Inter} {p2 : Int} {r : (List Setting)} (hm : ref21_bound p0 p1 p2 = some r) : RetD Try.prog 39 [p0.enc, p1.enc, .int .i64 p2] (.sl 2 (r.map Setting.enc)) := by
  refine .of (mv := fun _ => false) (ret_bodyS callB39 Try.func39 rfl Try.ntmps39 rfl rfl (fun wX gX => ?_))
  unfold ref21_bound at hm
  refine w_norm [0, 1, 2] rfl rfl ?_
  refine twp_rseq ?_
  refine s_bx 0 rfl rfl rfl ?_
  refine s_bx 1 rfl rfl rfl ?_
  refine s_a tab_ok rfl ?_
  refine tops_nil ?_
  refine w_norm [2, 3, 4] rfl rfl ?_
  refine twp_seq ?_
  refine twp_rseq ?_
  iterate 3 (refine s_a tab_ok rfl ?_)
  obtain ⟨e1, he1, hm⟩ := get_inv hm
  refine s_x rfl rfl (x_ix tab_ok rfl rfl rfl rfl he1) ?_
  iterate 3 (refine s_a tab_ok rfl ?_)
  refine tops_nil ?_
  refine w_norm [2, 3, 4, 20] rfl rfl ?_
  refine twp_cond _ rfl (fun h2 => ?_) (fun h2 => ?_)
  · replace hm := ite_T h2 hm
    refine twp_rseq ?_
    refine s_a tab_ok rfl ?_
    refine tops_nil ?_
    refine c_wk 6 [some 2] rfl ?_
    refine w_norm [6] rfl rfl ?_
    refine twp_ret ?_
    refine way_thenRet ?_
    obtain rfl := Option.some.inj hm
    exact EndsS.one _ rfl (.d _) (.refl _)
  · replace hm := ite_F h2 hm
    refine twp_skip ?_
    refine way_then ?_
    refine w_norm [2, 3, 4] rfl rfl ?_
    refine twp_rseq ?_
    iterate 3 (refine s_a tab_ok rfl ?_)
    obtain ⟨e3, he3, hm⟩ := get_inv hm
    refine s_x rfl rfl (x_ix tab_ok rfl rfl rfl rfl he3) ?_
    refine s_a tab_ok rfl ?_
    refine s_al 2 rfl rfl zero50 rfl ?_
    refine s_wkb 2 [none, none, none, some 3, some 2, some 1, none, none, some 3, some 2, some 1, some 2, some 1, some 2] rfl rfl ?_
    refine s_a tab_ok rfl ?_
    refine tops_nil ?_
    refine w_norm [2, 3, 4, 7] rfl rfl ?_
    refine twp_dseq follows  ?_
    iterate 5 (refine d_a [0, 1, 2] tab_ok rfl ?_)
    obtain ⟨e4, he4, hm⟩ := get_inv hm
    refine d_x [0, 1, 2] rfl rfl (x_ix tab_ok rfl rfl rfl rfl he4) ?_
    iterate 2 (refine d_a [0, 1, 2] tab_ok rfl ?_)
    obtain ⟨g5, hm⟩ := guard_inv hm
    refine d_x [0, 1, 2] rfl rfl (x_cut tab_ok rfl rfl rfl rfl rfl g5) ?_
    refine d_tail ?_ (by kernel_rfl)
    refine s_a tab_ok rfl ?_
    refine tops_nil ?_
    refine w_norm [3, 7, 8] rfl rfl ?_
    refine twp_rseq ?_
    refine s_a tab_ok rfl ?_
    obtain ⟨r6, hr6, hm⟩ := bind_inv hm
    refine s_x rfl rfl (rd_callRD rfl rfl rfl (ref16_Settings_c hr6)) ?_
    refine s_a tab_ok rfl ?_
    refine tops_nil ?_
    refine w_norm [3, 7, 8, 9] rfl rfl ?_
    refine twp_rseq ?_
    refine s_nilO (f := Setting.enc) 3 43 2 rfl rfl rfl ?_
    refine tops_nil ?_
    refine w_norm [3, 7, 8, 9, 10] rfl rfl ?_
    refine w_joinM hm (fun b7 => ([(10, .msl 3 2 0 b7.length)] : Fr)) (fun b7 => ([(3, .flat 43 2 (b7.map Setting.enc))] : List (Nat × Blk))) [10] [] rfl (fun z8 hm => ?_) (fun b7 hm => ?_)
    · refine twp_rseq ?_
      refine s_a tab_ok rfl ?_
      refine tops_nil ?_
      refine w_norm [3, 7, 8, 9, 10, 11] rfl rfl ?_
      refine twp_block ?_
      refine w_loop hm (fun (x12, b13) => ([(10, .msl 3 2 0 b13.length), (11, .d (.int .i64 x12))] : Fr)) (fun (x12, b13) => ([(3, .flat 43 2 (b13.map Setting.enc))] : List (Nat × Blk))) [10, 11] [3, 7, 8, 9] [0, 1, 2, 3] rfl k0 rfl rfl rfl rfl rfl (fun s z14 hm hz14 => ?_)
      obtain ⟨x12, b13⟩ := s
      refine w_norm [3, 7, 8, 9, 10, 11] rfl rfl ?_
      refine twp_seq ?_
      refine twp_rseq ?_
      iterate 2 (refine s_a tab_ok rfl ?_)
      refine s_x rfl rfl (x_len tab_ok rfl rfl rfl) ?_
      refine s_a tab_ok rfl ?_
      refine tops_nil ?_
      refine w_norm [3, 7, 8, 9, 10, 11, 40] rfl rfl ?_
      refine twp_cond _ rfl (fun h15 => ?_) (fun h15 => ?_)
      · replace hm := ite_T h15 hm
        refine twp_skip ?_
        refine way_then ?_
        refine w_norm [3, 7, 8, 9, 10, 11] rfl rfl ?_
        refine twp_seq ?_
        refine twp_block ?_
        refine twp_dseq follows  ?_
        iterate 3 (refine d_a [0, 1, 2, 3] tab_ok rfl ?_)
        obtain ⟨e16, he16, hm⟩ := get_inv hm
        refine d_x [0, 1, 2, 3] rfl rfl (x_ix tab_ok rfl rfl rfl rfl he16) ?_
        iterate 2 (refine d_a [0, 1, 2, 3] tab_ok rfl ?_)
        obtain ⟨r17, hr17, hm⟩ := bind_inv hm
        refine d_x [0, 1, 2, 3] rfl rfl (rd_callRN rfl rfl (snaps_cons (.d _) (snaps_cons (.d _) snaps_nil)) (ref16_Index_c hr17)) ?_
        refine d_tail ?_ (by kernel_rfl)
        refine s_a tab_ok rfl ?_
        refine tops_nil ?_
        refine w_norm [3, 7, 8, 9, 10, 11, 12] rfl rfl ?_
        refine w_joinM hm (fun x18 => ([(13, .d (.bool (x18)))] : Fr)) (fun x18 => ([] : List (Nat × Blk))) [13] [3, 7, 8, 9, 10, 11] rfl (fun z19 hm => ?_) (fun x18 hm => ?_)
        · refine twp_draw follows  ?_
          iterate 4 (refine d_a [0, 1, 2, 3] tab_ok rfl ?_)
          obtain ⟨e20, he20, hm⟩ := get_inv hm
          refine d_x [0, 1, 2, 3] rfl rfl (x_ix tab_ok rfl rfl rfl rfl he20) ?_
          refine d_a [0, 1, 2, 3] tab_ok rfl ?_
          obtain ⟨r21, hr21, hm⟩ := bind_inv hm
          refine d_x [0, 1, 2, 3] rfl rfl (rd_callRN rfl rfl (snaps_cons (.d _) (snaps_cons (.d _) snaps_nil)) (ref21_has_c hr21)) ?_
          refine d_b [0, 1, 2, 3] tab_ok rfl (fun q22 hq22 => ?_)
          cases q22
          · replace hm := iteB_F hq22 hm
            iterate 9 (refine d_a [0, 1, 2, 3] tab_ok rfl ?_)
            refine d_tail ?_ (by kernel_rfl)
            refine s_a tab_ok rfl ?_
            refine tops_nil ?_
            refine way_then ?_
            exact ⟨_, [0, 1, 2, 3], (Option.some.inj hm).symm, rfl, k0, rfl⟩
          · replace hm := iteB_T hq22 hm
            iterate 4 (refine d_a [0, 1, 2, 3] tab_ok rfl ?_)
            obtain ⟨e23, he23, hm⟩ := get_inv hm
            refine d_x [0, 1, 2, 3] rfl rfl (x_ix tab_ok rfl rfl rfl rfl he23) ?_
            refine d_a [0, 1, 2, 3] tab_ok rfl ?_
            obtain ⟨r24, hr24, hm⟩ := bind_inv hm
            refine d_x [0, 1, 2, 3] rfl rfl (rd_callRN rfl rfl (snaps_cons (.d _) (snaps_cons (.d _) snaps_nil)) (ref02_Has_c hr24)) ?_
            iterate 2 (refine d_a [0, 1, 2, 3] tab_ok rfl ?_)
            refine d_tail ?_ (by kernel_rfl)
            refine s_a tab_ok rfl ?_
            refine tops_nil ?_
            refine way_then ?_
            exact ⟨_, [0, 1, 2, 3], (Option.some.inj hm).symm, rfl, k0, rfl⟩
        · refine w_norm [3, 7, 8, 9, 10, 11, 13] rfl rfl ?_
          refine w_joinM hm (fun x25 => ([(85, .d (.bool (x25)))] : Fr)) (fun x25 => ([] : List (Nat × Blk))) [85] [3, 7, 8, 9, 10, 11] rfl (fun z26 hm => ?_) (fun x25 hm => ?_)
          · refine twp_draw follows  ?_
            refine d_a [0, 1, 2, 3] tab_ok rfl ?_
            refine d_b [0, 1, 2, 3] tab_ok rfl (fun q27 hq27 => ?_)
            cases q27
            · replace hm := iteB_F hq27 hm
              iterate 4 (refine d_a [0, 1, 2, 3] tab_ok rfl ?_)
              obtain ⟨e28, he28, hm⟩ := get_inv hm
              refine d_x [0, 1, 2, 3] rfl rfl (x_ix tab_ok rfl rfl rfl rfl he28) ?_
              refine d_a [0, 1, 2, 3] tab_ok rfl ?_
              obtain ⟨r29, hr29, hm⟩ := bind_inv hm
              refine d_x [0, 1, 2, 3] rfl rfl (rd_callRN rfl rfl (snaps_cons (.d _) (snaps_cons (.d _) snaps_nil)) (ref21_has_c hr29)) ?_
              refine d_a [0, 1, 2, 3] tab_ok rfl ?_
              refine d_b [0, 1, 2, 3] tab_ok rfl (fun q30 hq30 => ?_)
              cases q30
              · replace hm := iteB_F hq30 hm
                iterate 4 (refine d_a [0, 1, 2, 3] tab_ok rfl ?_)
                obtain ⟨e31, he31, hm⟩ := get_inv hm
                refine d_x [0, 1, 2, 3] rfl rfl (x_ix tab_ok rfl rfl rfl rfl he31) ?_
                refine d_a [0, 1, 2, 3] tab_ok rfl ?_
                obtain ⟨r32, hr32, hm⟩ := bind_inv hm
                refine d_x [0, 1, 2, 3] rfl rfl (rd_callRN rfl rfl (snaps_cons (.d _) (snaps_cons (.d _) snaps_nil)) (ref21_has_c hr32)) ?_
                refine d_a [0, 1, 2, 3] tab_ok rfl ?_
                refine d_tail ?_ (by kernel_rfl)
                refine tops_nil ?_
                refine way_then ?_
                exact ⟨_, [0, 1, 2, 3], (Option.some.inj hm).symm, rfl, k0, rfl⟩
              · replace hm := iteB_T hq30 hm
                iterate 8 (refine d_a [0, 1, 2, 3] tab_ok rfl ?_)
                refine d_tail ?_ (by kernel_rfl)
                refine tops_nil ?_
                refine way_then ?_
                exact ⟨_, [0, 1, 2, 3], (Option.some.inj hm).symm, rfl, k0, rfl⟩
            · replace hm := iteB_T hq27 hm
              iterate 17 (refine d_a [0, 1, 2, 3] tab_ok rfl ?_)
              refine d_tail ?_ (by kernel_rfl)
              refine tops_nil ?_
              refine way_then ?_
              exact ⟨_, [0, 1, 2, 3], (Option.some.inj hm).symm, rfl, k0, rfl⟩
          · refine w_norm [3, 7, 8, 9, 10, 11, 85] rfl rfl ?_
            refine twp_cond _ rfl (fun h33 => ?_) (fun h33 => ?_)
            · replace hm := iteB_T h33 hm
              refine twp_region ?_
              iterate 3 (refine s_a tab_ok rfl ?_)
              obtain ⟨e34, he34, hm⟩ := get_inv hm
              refine s_x rfl rfl (x_ix tab_ok rfl rfl rfl rfl he34) ?_
              refine s_a tab_ok rfl ?_
              refine s_x rfl rfl (x_lit [.tmp 90] tab_ok rfl rfl zero43 rfl rfl rfl rfl rfl) ?_
              obtain ⟨g35, hm⟩ := guard_inv hm
              refine s_app (f := Setting.enc) ([e34] : List Setting) tab_ok rfl rfl zero43 rfl rfl rfl rfl rfl (fun h => absurd h (Nat.not_lt_zero _)) rfl src_d g35 rfl rfl ?_
              refine s_a tab_ok rfl ?_
              refine tops_nil ?_
              refine way_block ?_
              refine way_then ?_
              refine w_norm [3, 7, 8, 9, 10, 11] rfl rfl ?_
              refine twp_region ?_
              refine s_a tab_ok rfl ?_
              obtain ⟨g36, hm⟩ := guard_inv hm
              refine s_x rfl rfl (x_ar rfl rfl rfl rfl g36) ?_
              refine s_a tab_ok rfl ?_
              refine tops_nil ?_
              refine way_then ?_
              exact ⟨_, [0, 1, 2, 3], (Option.some.inj hm).symm, rfl, k0, rfl⟩
            · replace hm := iteB_F h33 hm
              refine twp_skip ?_
              refine way_block ?_
              refine way_then ?_
              refine w_norm [3, 7, 8, 9, 10, 11] rfl rfl ?_
              refine twp_region ?_
              refine s_a tab_ok rfl ?_
              obtain ⟨g37, hm⟩ := guard_inv hm
              refine s_x rfl rfl (x_ar rfl rfl rfl rfl g37) ?_
              refine s_a tab_ok rfl ?_
              refine tops_nil ?_
              refine way_then ?_
              exact ⟨_, [0, 1, 2, 3], (Option.some.inj hm).symm, rfl, k0, rfl⟩
      · replace hm := ite_F h15 hm
        refine twp_exit ?_
        refine way_thenExit ?_
        obtain ⟨v38, hm, hz⟩ := inr_inv hm
        rw [hz14 _ hz] at hm
        refine way_thenExit ?_
        refine way_here ?_
        refine way_then ?_
        exact ⟨_, [0, 1, 2, 3], (Option.some.inj hm).symm, rfl, k0, rfl⟩
    · refine w_norm [10] rfl rfl ?_
      refine twp_rseq ?_
      iterate 2 (refine s_a tab_ok rfl ?_)
      refine tops_nil ?_
      refine w_norm [6] rfl rfl ?_
      refine twp_ret ?_
      obtain rfl := Option.some.inj hm
      exact EndsS.one _ rfl (snap_map rfl) (.refl _)

theorem ref21_Bound_c {p0 : Table} {p1 : Inter} {p2 : Int} {r : (List Setting)} (hm : ref21_Bound p0 p1 p2 = some r) : RetD Try.prog 15 [p0.enc, p1.enc, .int .i64 p2] (.sl 2 (r.map Setting.enc)) := by
  refine .of (mv := fun _ => false) (ret_bodyS callB15 Try.func15 rfl Try.ntmps15 rfl rfl (fun wX gX => ?_))
  unfold ref21_Bound at hm
  refine w_norm [0, 1, 2] rfl rfl ?_
  refine twp_rseq ?_
  refine s_bx 0 rfl rfl rfl ?_
  refine s_bx 1 rfl rfl rfl ?_
  refine s_a tab_ok rfl ?_
  refine tops_nil ?_
  refine w_norm [2, 3, 4] rfl rfl ?_
  refine twp_seq ?_
  refine twp_rseq ?_
  iterate 3 (refine s_a tab_ok rfl ?_)
  obtain ⟨r1, hr1, hm⟩ := bind_inv hm
  refine s_x rfl rfl (rd_callRN rfl rfl (snaps_cons (.d _) (snaps_cons (.d _) (snaps_cons (.d _) snaps_nil))) (ref21_locked_c hr1)) ?_
  refine s_a tab_ok rfl ?_
  refine tops_nil ?_
  refine w_norm [2, 3, 4, 11] rfl rfl ?_
  refine twp_cond _ rfl (fun h2 => ?_) (fun h2 => ?_)
  · replace hm := iteB_T h2 hm
    refine twp_rseq ?_
    refine s_a tab_ok rfl ?_
    refine tops_nil ?_
    refine c_wk 6 [some 2] rfl ?_
    refine w_norm [6] rfl rfl ?_
    refine twp_ret ?_
    refine way_thenRet ?_
    obtain rfl := Option.some.inj hm
    exact EndsS.one _ rfl (.d _) (.refl _)
  · replace hm := iteB_F h2 hm
    refine twp_skip ?_
    refine way_then ?_
    refine w_norm [2, 3, 4] rfl rfl ?_
    refine twp_rseq ?_
    iterate 3 (refine s_a tab_ok rfl ?_)
    obtain ⟨r3, hr3, hm⟩ := bind_inv hm
    refine s_x rfl rfl (rd_callRD rfl rfl rfl (ref21_bound_c hr3)) ?_
    refine s_a tab_ok rfl ?_
    refine tops_nil ?_
    refine w_norm [6] rfl rfl ?_
    refine twp_ret ?_
    obtain rfl := Option.some.inj hm
    exact EndsS.one _ rfl (.d _) (.refl _)

theorem ref21_over_c {p0 : Table} {p1 : Inter} {p2 : Int} {r : (List Int)} (hm : ref21_over p0 p1 p2 = some r) : RetD Try.prog 40 [p0.enc, p1.enc, .int .i64 p2] (.sl 1 (r.map (D.int .i64))) := by
  refine .of (mv := fun _ => false) (ret_bodyS callB40 Try.func40 rfl Try.ntmps40 rfl rfl (fun wX gX => ?_))
  unfold ref21_over at hm
  refine w_norm [0, 1, 2] rfl rfl ?_
  refine twp_rseq ?_
  refine s_bx 0 rfl rfl rfl ?_
  refine s_bx 1 rfl rfl rfl ?_
  refine s_a tab_ok rfl ?_
  refine tops_nil ?_
  refine w_norm [2, 3, 4] rfl rfl ?_
  refine twp_seq ?_
  refine twp_rseq ?_
  iterate 3 (refine s_a tab_ok rfl ?_)
  obtain ⟨e1, he1, hm⟩ := get_inv hm
  refine s_x rfl rfl (x_ix tab_ok rfl rfl rfl rfl he1) ?_
  iterate 3 (refine s_a tab_ok rfl ?_)
  refine tops_nil ?_
  refine w_norm [2, 3, 13] rfl rfl ?_
  refine twp_cond _ rfl (fun h2 => ?_) (fun h2 => ?_)
  · replace hm := ite_T h2 hm
    refine twp_rseq ?_
    refine s_a tab_ok rfl ?_
    refine tops_nil ?_
    refine c_wk 6 [some 1] rfl ?_
    refine w_norm [6] rfl rfl ?_
    refine twp_ret ?_
    refine way_thenRet ?_
    obtain rfl := Option.some.inj hm
    exact EndsS.one _ rfl (.d _) (.refl _)
  · replace hm := ite_F h2 hm
    refine twp_skip ?_
    refine way_then ?_
    refine w_norm [2, 3] rfl rfl ?_
    refine twp_rseq ?_
    refine s_litO (f := (D.int .i64)) 2 [] ([] : List Int) tab_ok rfl rfl rfl zero3 rfl rfl rfl rfl rfl ?_
    iterate 3 (refine s_a tab_ok rfl ?_)
    obtain ⟨e3, he3, hm⟩ := get_inv hm
    refine s_x rfl rfl (x_ix tab_ok rfl rfl rfl rfl he3) ?_
    iterate 2 (refine s_a tab_ok rfl ?_)
    obtain ⟨g4, hm⟩ := guard_inv hm
    refine s_app (f := (D.int .i64)) e3.overSections tab_ok rfl rfl zero3 rfl rfl rfl rfl rfl (fun h => absurd h (Nat.not_lt_zero _)) rfl src_d g4 rfl rfl ?_
    refine s_a tab_ok rfl ?_
    refine tops_nil ?_
    refine w_norm [6] rfl rfl ?_
    refine twp_ret ?_
    obtain rfl := Option.some.inj hm
    exact EndsS.one _ rfl (snap_map rfl) (.refl _)

theorem ref21_Over_c {p0 : Table} {p1 : Inter} {p2 : Int} {r : (List Int)} (hm : ref21_Over p0 p1 p2 = some r) : RetD Try.prog 16 [p0.enc, p1.enc, .int .i64 p2] (.sl 1 (r.map (D.int .i64))) := by
  refine .of (mv := fun _ => false) (ret_bodyS callB16 Try.func16 rfl Try.ntmps16 rfl rfl (fun wX gX => ?_))
  unfold ref21_Over at hm
  refine w_norm [0, 1, 2] rfl rfl ?_
  refine twp_rseq ?_
  refine s_bx 0 rfl rfl rfl ?_
  refine s_bx 1 rfl rfl rfl ?_
  refine s_a tab_ok rfl ?_
  refine tops_nil ?_
  refine w_norm [2, 3, 4] rfl rfl ?_
  refine twp_seq ?_
  refine twp_rseq ?_
  iterate 3 (refine s_a tab_ok rfl ?_)
  obtain ⟨r1, hr1, hm⟩ := bind_inv hm
  refine s_x rfl rfl (rd_callRN rfl rfl (snaps_cons (.d _) (snaps_cons (.d _) (snaps_cons (.d _) snaps_nil))) (ref21_locked_c hr1)) ?_
  refine s_a tab_ok rfl ?_
  refine tops_nil ?_
  refine w_norm [2, 3, 4, 11] rfl rfl ?_
  refine twp_cond _ rfl (fun h2 => ?_) (fun h2 => ?_)
  · replace hm := iteB_T h2 hm
    refine twp_rseq ?_
    refine s_a tab_ok rfl ?_
    refine tops_nil ?_
    refine c_wk 6 [some 1] rfl ?_
    refine w_norm [6] rfl rfl ?_
    refine twp_ret ?_
    refine way_thenRet ?_
    obtain rfl := Option.some.inj hm
    exact EndsS.one _ rfl (.d _) (.refl _)
  · replace hm := iteB_F h2 hm
    refine twp_skip ?_
    refine way_then ?_
    refine w_norm [2, 3, 4] rfl rfl ?_
    refine twp_rseq ?_
    iterate 3 (refine s_a tab_ok rfl ?_)
    obtain ⟨r3, hr3, hm⟩ := bind_inv hm
    refine s_x rfl rfl (rd_callRD rfl rfl rfl (ref21_over_c hr3)) ?_
    refine s_a tab_ok rfl ?_
    refine tops_nil ?_
    refine w_norm [6] rfl rfl ?_
    refine twp_ret ?_
    obtain rfl := Option.some.inj hm
    exact EndsS.one _ rfl (.d _) (.refl _)

theorem law22_ProgressShrinks_w {p0 : Table} {p1 : Inter} {p2 : Inputs} {p3 : Int} {r : Bool} (hm : law22_ProgressShrinks p0 p1 p2 p3 = some r) : Ret Try.prog 5 [] (fun _ => false) ([p0.enc, p1.enc, p2.enc, .int .i64 p3].map .d) (.d (.bool (r))) [] := by
  refine ret_bodyS callB5 Try.func5 rfl Try.ntmps5 rfl rfl (fun wX gX => ?_)
  unfold law22_ProgressShrinks at hm
  refine w_norm [0, 1, 2, 3] rfl rfl ?_
  refine twp_rseq ?_
  refine s_bx 0 rfl rfl rfl ?_
  refine s_bx 1 rfl rfl rfl ?_
  refine s_bx 2 rfl rfl rfl ?_
  refine s_a tab_ok rfl ?_
  refine tops_nil ?_
  refine w_norm [3, 4, 5, 6] rfl rfl ?_
  refine twp_seq ?_
  refine w_joinM hm (fun x1 => ([(43, .d (.bool (x1)))] : Fr)) (fun x1 => ([] : List (Nat × Blk))) [43] [3, 4, 5, 6] rfl (fun z2 hm => ?_) (fun x1 hm => ?_)
  · refine twp_region ?_
    iterate 2 (refine s_a tab_ok rfl ?_)
    obtain ⟨r3, hr3, hm⟩ := bind_inv hm
    refine s_x rfl rfl (rd_callRN rfl rfl (snaps_cons (.d _) (snaps_cons (.d _) snaps_nil)) (law21_Small_c hr3)) ?_
    refine s_a tab_ok rfl ?_
    refine s_b tab_ok rfl (fun q4 hq4 => ?_)
    cases q4
    · replace hm := iteB_F hq4 hm
      refine s_a tab_ok rfl ?_
      obtain ⟨r5, hr5, hm⟩ := bind_inv hm
      refine s_x rfl rfl (rd_callRN rfl rfl (snaps_cons (.d _) snaps_nil) (law22_Few_c hr5)) ?_
      iterate 2 (refine s_a tab_ok rfl ?_)
      refine s_b tab_ok rfl (fun q6 hq6 => ?_)
      cases q6
      · replace hm := iteB_F hq6 hm
        iterate 2 (refine s_a tab_ok rfl ?_)
        obtain ⟨r7, hr7, hm⟩ := bind_inv hm
        refine s_x rfl rfl (rd_callRN rfl rfl (snaps_cons (.d _) (snaps_cons (.d _) snaps_nil)) (ref21_Fits_c hr7)) ?_
        iterate 2 (refine s_a tab_ok rfl ?_)
        refine s_b tab_ok rfl (fun q8 hq8 => ?_)
        cases q8
        · replace hm := iteB_F hq8 hm
          iterate 3 (refine s_a tab_ok rfl ?_)
          refine s_b tab_ok rfl (fun q9 hq9 => ?_)
          cases q9
          · replace hm := ite_F hq9 hm
            iterate 3 (refine s_a tab_ok rfl ?_)
            refine s_x rfl rfl (x_len tab_ok rfl rfl rfl) ?_
            iterate 2 (refine s_a tab_ok rfl ?_)
            refine tops_nil ?_
            refine way_then ?_
            exact ⟨_, [0, 1, 2], (Option.some.inj hm).symm, rfl, k0, rfl⟩
          · replace hm := ite_T hq9 hm
            iterate 6 (refine s_a tab_ok rfl ?_)
            refine tops_nil ?_
            refine way_then ?_
            exact ⟨_, [0, 1, 2], (Option.some.inj hm).symm, rfl, k0, rfl⟩
        · replace hm := iteB_T hq8 hm
          iterate 10 (refine s_a tab_ok rfl ?_)
          refine tops_nil ?_
          refine way_then ?_
          exact ⟨_, [0, 1, 2], (Option.some.inj hm).symm, rfl, k0, rfl⟩
      · replace hm := iteB_T hq6 hm
        iterate 16 (refine s_a tab_ok rfl ?_)
        refine tops_nil ?_
        refine way_then ?_
        exact ⟨_, [0, 1, 2], (Option.some.inj hm).symm, rfl, k0, rfl⟩
    · replace hm := iteB_T hq4 hm
      iterate 21 (refine s_a tab_ok rfl ?_)
      refine tops_nil ?_
      refine way_then ?_
      exact ⟨_, [0, 1, 2], (Option.some.inj hm).symm, rfl, k0, rfl⟩
  · refine w_norm [3, 4, 5, 6, 43] rfl rfl ?_
    refine twp_cond _ rfl (fun h10 => ?_) (fun h10 => ?_)
    · replace hm := iteB_T h10 hm
      refine twp_rseq ?_
      obtain ⟨r11, hr11, hm⟩ := bind_inv hm
      refine s_x rfl rfl (rd_callRN rfl rfl snaps_nil (law22_alive_c hr11)) ?_
      refine s_a tab_ok rfl ?_
      refine tops_nil ?_
      refine w_norm [8] rfl rfl ?_
      refine twp_ret ?_
      refine way_thenRet ?_
      obtain rfl := Option.some.inj hm
      exact EndsS.one _ rfl (.d _) (.refl _)
    · replace hm := iteB_F h10 hm
      refine twp_skip ?_
      refine way_then ?_
      refine w_norm [3, 4, 5, 6] rfl rfl ?_
      refine twp_hole ?_
      refine twp_hole ?_
      refine twp_dseq follows  ?_
      refine d_x [] rfl rfl (x_lit0 tab_ok rfl rfl zero36 rfl) ?_
      refine d_a [] tab_ok rfl ?_
      refine d_a [1] tab_ok rfl ?_
      obtain ⟨g12, hm⟩ := guard_inv hm
      refine d_wr [3] _ (.msl 3 3 0 (([] : List RouteState) ++ p1.routes).length) rfl (onE_A rfl) rfl (w_appN (f := RouteState.enc) (([] : List RouteState) ++ p1.routes) rfl rfl tab_ok rfl zero36 rfl rfl rfl rfl src_d g12) ?_
      refine d_a [] tab_ok rfl ?_
      refine d_a [1] tab_ok rfl ?_
      refine d_x [] rfl rfl (rd_build rfl plc28 zero28 rfl rfl rfl rfl) ?_
      refine d_wr [4] _ (.mptr 4 0 0 0) rfl (onE_A rfl) rfl (w_alloc rfl rfl zero28 rfl rfl) ?_
      refine d_tail ?_ (by kernel_rfl)
      refine s_a tab_ok rfl ?_
      refine tops_nil ?_
      refine w_norm [3, 4, 5, 6, 9] rfl rfl ?_
      refine twp_dseq follows  ?_
      iterate 7 (refine d_a [0, 1, 2, 3, 4] tab_ok rfl ?_)
      obtain ⟨r13, hr13, hm⟩ := bind_inv hm
      refine d_x [0, 1, 2, 3, 4] rfl rfl (rd_callRN rfl rfl (snaps_cons (.d _) (snaps_cons (.d _) (snaps_cons (.d _) (snaps_cons (.d _) snaps_nil)))) (progress_Next_c hr13)) ?_
      obtain ⟨e14, he14, hm⟩ := get_inv hm
      refine d_x [0, 1, 2, 3, 4] rfl rfl (x_ixo tab_ok rfl rfl rfl rfl he14 rfl) ?_
      refine d_tail ?_ (by kernel_rfl)
      refine s_sto (x' := r13) tab_ok rfl rfl rfl rfl rfl he14.2 rfl rfl rfl ?_
      refine s_lno 53 ((([] : List RouteState) ++ p1.routes).set p3.toNat r13).length rfl List.length_set.symm ?_
      refine s_eqB 4 [.msl 3 3 0 ((([] : List RouteState) ++ p1.routes).set p3.toNat r13).length, .d (.sl 1 (p1.lies.map (D.int .i64)))] rfl (by simp only [List.length_set]) ?_
      refine tops_nil ?_
      refine w_norm [3, 4, 5, 9] rfl rfl ?_
      refine twp_seq ?_
      refine twp_rseq ?_
      iterate 2 (refine s_a tab_ok rfl ?_)
      obtain ⟨r15, hr15, hm⟩ := bind_inv hm
      refine s_x rfl rfl (rd_callRN rfl rfl (snaps_cons (.d _) (snaps_cons (snap_agg (.cons (snap_map rfl) rfl (.cons (.d _) rfl .nil))) snaps_nil)) (ref21_Fits_c hr15)) ?_
      refine s_a tab_ok rfl ?_
      refine tops_nil ?_
      refine w_norm [3, 4, 5, 9, 64] rfl rfl ?_
      refine twp_cond _ rfl (fun h16 => ?_) (fun h16 => ?_)
      · replace hm := iteB_T h16 hm
        refine twp_rseq ?_
        refine s_a tab_ok rfl ?_
        refine tops_nil ?_
        refine w_norm [8] rfl rfl ?_
        refine twp_ret ?_
        refine way_thenRet ?_
        obtain rfl := Option.some.inj hm
        exact EndsS.one _ rfl (.d _) (.refl _)
      · replace hm := iteB_F h16 hm
        refine twp_skip ?_
        refine way_then ?_
        refine w_norm [3, 4, 5, 9] rfl rfl ?_
        refine c_frzC 4 0 3 [3, 4, 5, 9] rfl rfl rfl rfl rfl (by simp) rfl rfl rfl ?_
        refine twp_dseq follows  ?_
        iterate 3 (refine d_a [0, 1, 2, 3, 4] tab_ok rfl ?_)
        obtain ⟨r17, hr17, hm⟩ := bind_inv hm
        refine d_x [0, 1, 2, 3, 4] rfl rfl (rd_callRD rfl rfl rfl (ref21_Path_c hr17)) ?_
        iterate 3 (refine d_a [0, 1, 2, 3, 4] tab_ok rfl ?_)
        obtain ⟨r18, hr18, hm⟩ := bind_inv hm
        refine d_x [0, 1, 2, 3, 4] rfl rfl (rd_callRD rfl rfl rfl (ref21_Path_c hr18)) ?_
        refine d_tail ?_ (by kernel_rfl)
        iterate 2 (refine s_a tab_ok rfl ?_)
        refine tops_nil ?_
        refine w_norm [3, 4, 5, 9, 10, 11] rfl rfl ?_
        refine twp_dseq follows  ?_
        iterate 3 (refine d_a [0, 1, 2, 3, 4] tab_ok rfl ?_)
        obtain ⟨r19, hr19, hm⟩ := bind_inv hm
        refine d_x [0, 1, 2, 3, 4] rfl rfl (rd_callRD rfl rfl rfl (ref21_Bound_c hr19)) ?_
        iterate 3 (refine d_a [0, 1, 2, 3, 4] tab_ok rfl ?_)
        obtain ⟨r20, hr20, hm⟩ := bind_inv hm
        refine d_x [0, 1, 2, 3, 4] rfl rfl (rd_callRD rfl rfl rfl (ref21_Bound_c hr20)) ?_
        refine d_tail ?_ (by kernel_rfl)
        iterate 2 (refine s_a tab_ok rfl ?_)
        refine tops_nil ?_
        refine w_norm [3, 4, 5, 9, 10, 11, 12, 13] rfl rfl ?_
        refine twp_seq ?_
        refine w_joinM hm (fun x21 => ([(105, .d (.bool (x21)))] : Fr)) (fun x21 => ([] : List (Nat × Blk))) [105] [10, 11, 12, 13] rfl (fun z22 hm => ?_) (fun x21 hm => ?_)
        · refine twp_draw follows  ?_
          refine d_a [0, 1, 2, 3, 4] tab_ok rfl ?_
          refine d_x [0, 1, 2, 3, 4] rfl rfl (x_len tab_ok rfl rfl rfl) ?_
          refine d_a [0, 1, 2, 3, 4] tab_ok rfl ?_
          refine d_x [0, 1, 2, 3, 4] rfl rfl (x_len tab_ok rfl rfl rfl) ?_
          refine d_a [0, 1, 2, 3, 4] tab_ok rfl ?_
          refine d_b [0, 1, 2, 3, 4] tab_ok rfl (fun q23 hq23 => ?_)
          cases q23
          · replace hm := ite_F hq23 hm
            refine d_a [0, 1, 2, 3, 4] tab_ok rfl ?_
            refine d_x [0, 1, 2, 3, 4] rfl rfl (x_len tab_ok rfl rfl rfl) ?_
            refine d_a [0, 1, 2, 3, 4] tab_ok rfl ?_
            refine d_x [0, 1, 2, 3, 4] rfl rfl (x_len tab_ok rfl rfl rfl) ?_
            iterate 2 (refine d_a [0, 1, 2, 3, 4] tab_ok rfl ?_)
            refine d_b [0, 1, 2, 3, 4] tab_ok rfl (fun q24 hq24 => ?_)
            cases q24
            · replace hm := ite_F hq24 hm
              iterate 3 (refine d_a [0, 1, 2, 3, 4] tab_ok rfl ?_)
              obtain ⟨r25, hr25, hm⟩ := bind_inv hm
              refine d_x [0, 1, 2, 3, 4] rfl rfl (rd_callRD rfl rfl rfl (ref21_Over_c hr25)) ?_
              refine d_x [0, 1, 2, 3, 4] rfl rfl (x_len tab_ok rfl rfl rfl) ?_
              iterate 3 (refine d_a [0, 1, 2, 3, 4] tab_ok rfl ?_)
              obtain ⟨r26, hr26, hm⟩ := bind_inv hm
              refine d_x [0, 1, 2, 3, 4] rfl rfl (rd_callRD rfl rfl rfl (ref21_Over_c hr26)) ?_
              refine d_x [0, 1, 2, 3, 4] rfl rfl (x_len tab_ok rfl rfl rfl) ?_
              iterate 2 (refine d_a [0, 1, 2, 3, 4] tab_ok rfl ?_)
              refine d_tail ?_ (by kernel_rfl)
              refine tops_nil ?_
              refine way_then ?_
              exact ⟨_, [0, 1, 2, 3, 4], (Option.some.inj hm).symm, rfl, k0, rfl⟩
            · replace hm := ite_T hq24 hm
              iterate 12 (refine d_a [0, 1, 2, 3, 4] tab_ok rfl ?_)
              refine d_tail ?_ (by kernel_rfl)
              refine tops_nil ?_
              refine way_then ?_
              exact ⟨_, [0, 1, 2, 3, 4], (Option.some.inj hm).symm, rfl, k0, rfl⟩
          · replace hm := ite_T hq23 hm
            iterate 19 (refine d_a [0, 1, 2, 3, 4] tab_ok rfl ?_)
            refine d_tail ?_ (by kernel_rfl)
            refine tops_nil ?_
            refine way_then ?_
            exact ⟨_, [0, 1, 2, 3, 4], (Option.some.inj hm).symm, rfl, k0, rfl⟩
        · refine w_norm [10, 11, 12, 13, 105] rfl rfl ?_
          refine twp_cond _ rfl (fun h27 => ?_) (fun h27 => ?_)
          · replace hm := iteB_T h27 hm
            refine twp_rseq ?_
            refine s_a tab_ok rfl ?_
            refine tops_nil ?_
            refine w_norm [8] rfl rfl ?_
            refine twp_ret ?_
            refine way_thenRet ?_
            obtain rfl := Option.some.inj hm
            exact EndsS.one _ rfl (.d _) (.refl _)
          · replace hm := iteB_F h27 hm
            refine twp_skip ?_
            refine way_then ?_
            refine w_norm [10, 11, 12, 13] rfl rfl ?_
            refine w_joinS hm (fun _ => ([] : Fr)) (fun _ => ([] : List (Nat × Blk))) [] [12, 13] rfl (fun z28 hm hz28 => ?_) (fun j hm => ?_)
            · refine twp_rseq ?_
              refine s_a tab_ok rfl ?_
              refine s_x rfl rfl (x_len tab_ok rfl rfl rfl) ?_
              refine s_a tab_ok rfl ?_
              refine tops_nil ?_
              refine w_norm [10, 11, 12, 13, 107, 108] rfl rfl ?_
              refine twp_block ?_
              refine w_loop hm (fun x30 => ([(108, .d (.int .i64 x30))] : Fr)) (fun x30 => ([] : List (Nat × Blk))) [108] [10, 11, 12, 13, 107] [0, 1, 2, 3, 4] rfl k0 rfl rfl rfl rfl rfl (fun x30 z31 hm hz31 => ?_)
              refine w_norm [10, 11, 12, 13, 107, 108] rfl rfl ?_
              refine twp_rseq ?_
              refine s_a tab_ok rfl ?_
              refine tops_nil ?_
              refine w_norm [10, 11, 12, 13, 107, 108, 109] rfl rfl ?_
              refine twp_seq ?_
              refine twp_cond _ rfl (fun h32 => ?_) (fun h32 => ?_)
              · replace hm := ite_T h32 hm
                refine twp_skip ?_
                refine way_then ?_
                refine w_norm [10, 11, 12, 13, 107, 108] rfl rfl ?_
                refine twp_seq ?_
                refine twp_block ?_
                refine twp_rseq ?_
                iterate 2 (refine s_a tab_ok rfl ?_)
                refine tops_nil ?_
                refine w_norm [10, 11, 12, 13, 14, 107, 108] rfl rfl ?_
                refine twp_dseq follows  ?_
                iterate 2 (refine d_a [0, 1, 2, 3, 4] tab_ok rfl ?_)
                obtain ⟨e33, he33, hm⟩ := get_inv hm
                refine d_x [0, 1, 2, 3, 4] rfl rfl (x_ix tab_ok rfl rfl rfl rfl he33) ?_
                iterate 3 (refine d_a [0, 1, 2, 3, 4] tab_ok rfl ?_)
                refine d_x [0, 1, 2, 3, 4] rfl rfl (x_len tab_ok rfl rfl rfl) ?_
                refine d_a [0, 1, 2, 3, 4] tab_ok rfl ?_
                refine d_x [0, 1, 2, 3, 4] rfl rfl (x_len tab_ok rfl rfl rfl) ?_
                obtain ⟨g34, hm⟩ := guard_inv hm
                refine d_x [0, 1, 2, 3, 4] rfl rfl (x_ar rfl rfl rfl rfl g34) ?_
                refine d_a [0, 1, 2, 3, 4] tab_ok rfl ?_
                obtain ⟨g35, hm⟩ := guard_inv hm
                refine d_x [0, 1, 2, 3, 4] rfl rfl (x_ar rfl rfl rfl rfl g35) ?_
                obtain ⟨e36, he36, hm⟩ := get_inv hm
                refine d_x [0, 1, 2, 3, 4] rfl rfl (x_ix tab_ok rfl rfl rfl rfl he36) ?_
                iterate 2 (refine d_a [0, 1, 2, 3, 4] tab_ok rfl ?_)
                refine d_tail ?_ (by kernel_rfl)
                refine tops_nil ?_
                refine w_norm [10, 11, 12, 13, 107, 108, 125] rfl rfl ?_
                refine twp_cond _ rfl (fun h37 => ?_) (fun h37 => ?_)
                · replace hm := iteN_T h37 hm
                  refine twp_rseq ?_
                  refine s_a tab_ok rfl ?_
                  refine tops_nil ?_
                  refine w_norm [8] rfl rfl ?_
                  refine twp_ret ?_
                  refine way_blockRet ?_
                  refine way_thenRet ?_
                  obtain ⟨v38, hm, hz⟩ := inr_inv hm
                  rw [hz31 _ hz] at hm
                  refine way_thenRet ?_
                  refine way_blockRet ?_
                  obtain ⟨v39, hm, hz⟩ := inr_inv hm
                  rw [hz28 _ hz] at hm
                  refine way_thenRet ?_
                  obtain rfl := Option.some.inj hm
                  exact EndsS.one _ rfl (.d _) (.refl _)
                · replace hm := iteN_F h37 hm
                  refine twp_skip ?_
                  refine way_block ?_
                  refine way_then ?_
                  refine w_norm [10, 11, 12, 13, 107, 108] rfl rfl ?_
                  refine twp_region ?_
                  obtain ⟨g40, hm⟩ := guard_inv hm
                  refine s_x rfl rfl (x_ar rfl rfl rfl rfl g40) ?_
                  refine s_a tab_ok rfl ?_
                  refine tops_nil ?_
                  refine way_then ?_
                  exact ⟨_, [0, 1, 2, 3, 4], (Option.some.inj hm).symm, rfl, k0, rfl⟩
              · replace hm := ite_F h32 hm
                refine twp_exit ?_
                refine way_thenExit ?_
                obtain ⟨v41, hm, hz⟩ := inr_inv hm
                rw [hz31 _ hz] at hm
                refine way_thenExit ?_
                refine way_here ?_
                refine way_then ?_
                exact ⟨_, [0, 1, 2, 3, 4], (Option.some.inj hm).symm, rfl, k0, rfl⟩
            · refine w_norm [12, 13] rfl rfl ?_
              refine w_joinS hm (fun _ => ([] : Fr)) (fun _ => ([] : List (Nat × Blk))) [] [] rfl (fun z42 hm hz42 => ?_) (fun j hm => ?_)
              · refine twp_rseq ?_
                refine s_a tab_ok rfl ?_
                refine s_x rfl rfl (x_len tab_ok rfl rfl rfl) ?_
                refine s_a tab_ok rfl ?_
                refine tops_nil ?_
                refine w_norm [12, 13, 128, 129] rfl rfl ?_
                refine twp_block ?_
                refine w_loop hm (fun x44 => ([(129, .d (.int .i64 x44))] : Fr)) (fun x44 => ([] : List (Nat × Blk))) [129] [12, 13, 128] [0, 1, 2, 3, 4] rfl k0 rfl rfl rfl rfl rfl (fun x44 z45 hm hz45 => ?_)
                refine w_norm [12, 13, 128, 129] rfl rfl ?_
                refine twp_rseq ?_
                refine s_a tab_ok rfl ?_
                refine tops_nil ?_
                refine w_norm [12, 13, 128, 129, 130] rfl rfl ?_
                refine twp_seq ?_
                refine twp_cond _ rfl (fun h46 => ?_) (fun h46 => ?_)
                · replace hm := ite_T h46 hm
                  refine twp_skip ?_
                  refine way_then ?_
                  refine w_norm [12, 13, 128, 129] rfl rfl ?_
                  refine w_joinS hm (fun _ => ([] : Fr)) (fun _ => ([] : List (Nat × Blk))) [] [12, 13, 128, 129] rfl (fun z47 hm hz47 => ?_) (fun j hm => ?_)
                  · refine twp_block ?_
                    refine twp_rseq ?_
                    iterate 2 (refine s_a tab_ok rfl ?_)
                    refine tops_nil ?_
                    refine w_norm [12, 13, 15, 128, 129] rfl rfl ?_
                    refine twp_rseq ?_
                    refine s_a tab_ok rfl ?_
                    refine tops_nil ?_
                    refine w_norm [12, 13, 15, 16, 128, 129] rfl rfl ?_
                    refine w_joinM hm (fun x48 => ([(16, .d (.bool (x48)))] : Fr)) (fun x48 => ([] : List (Nat × Blk))) [16] [12, 13, 128, 129] rfl (fun z49 hm => ?_) (fun x48 hm => ?_)
                    · refine twp_rseq ?_
                      refine s_a tab_ok rfl ?_
                      refine s_x rfl rfl (x_len tab_ok rfl rfl rfl) ?_
                      refine s_a tab_ok rfl ?_
                      refine tops_nil ?_
                      refine w_norm [12, 13, 15, 16, 128, 129, 133, 134] rfl rfl ?_
                      refine twp_block ?_
                      refine w_loop hm (fun (x52, x53) => ([(16, .d (.bool (x52))), (134, .d (.int .i64 x53))] : Fr)) (fun (x52, x53) => ([] : List (Nat × Blk))) [16, 134] [12, 13, 15, 128, 129, 133] [0, 1, 2, 3, 4] rfl k0 rfl rfl rfl rfl rfl (fun s z54 hm hz54 => ?_)
                      obtain ⟨x52, x53⟩ := s
                      refine w_norm [12, 13, 15, 16, 128, 129, 133, 134] rfl rfl ?_
                      refine twp_rseq ?_
                      refine s_a tab_ok rfl ?_
                      refine tops_nil ?_
                      refine w_norm [12, 13, 15, 16, 128, 129, 133, 134, 135] rfl rfl ?_
                      refine twp_seq ?_
                      refine twp_cond _ rfl (fun h55 => ?_) (fun h55 => ?_)
                      · replace hm := ite_T h55 hm
                        refine twp_skip ?_
                        refine way_then ?_
                        refine w_norm [12, 13, 15, 16, 128, 129, 133, 134] rfl rfl ?_
                        refine twp_seq ?_
                        refine twp_block ?_
                        refine twp_rseq ?_
                        iterate 2 (refine s_a tab_ok rfl ?_)
                        refine tops_nil ?_
                        refine w_norm [12, 13, 15, 16, 17, 128, 129, 133, 134] rfl rfl ?_
                        refine twp_draw follows  ?_
                        refine d_a [0, 1, 2, 3, 4] tab_ok rfl ?_
                        refine d_b [0, 1, 2, 3, 4] tab_ok rfl (fun q56 hq56 => ?_)
                        cases q56
                        · replace hm := iteB_F hq56 hm
                          iterate 2 (refine d_a [0, 1, 2, 3, 4] tab_ok rfl ?_)
                          obtain ⟨e57, he57, hm⟩ := get_inv hm
                          refine d_x [0, 1, 2, 3, 4] rfl rfl (x_ix tab_ok rfl rfl rfl rfl he57) ?_
                          iterate 3 (refine d_a [0, 1, 2, 3, 4] tab_ok rfl ?_)
                          obtain ⟨e58, he58, hm⟩ := get_inv hm
                          refine d_x [0, 1, 2, 3, 4] rfl rfl (x_ix tab_ok rfl rfl rfl rfl he58) ?_
                          refine d_a [0, 1, 2, 3, 4] tab_ok rfl ?_
                          obtain ⟨g59, hm⟩ := guard_inv hm
                          refine d_x [0, 1, 2, 3, 4] rfl rfl (Setting_eq rfl rfl rfl g59.1 g59.2) ?_
                          refine d_a [0, 1, 2, 3, 4] tab_ok rfl ?_
                          refine d_tail ?_ (by kernel_rfl)
                          refine s_a tab_ok rfl ?_
                          refine tops_nil ?_
                          refine way_block ?_
                          refine way_then ?_
                          refine w_norm [12, 13, 15, 16, 128, 129, 133, 134] rfl rfl ?_
                          refine twp_region ?_
                          obtain ⟨g61, hm⟩ := guard_inv hm
                          refine s_x rfl rfl (x_ar rfl rfl rfl rfl g61) ?_
                          refine s_a tab_ok rfl ?_
                          refine tops_nil ?_
                          refine way_then ?_
                          exact ⟨_, [0, 1, 2, 3, 4], (Option.some.inj hm).symm, rfl, k0, rfl⟩
                        · replace hm := iteB_T hq56 hm
                          iterate 10 (refine d_a [0, 1, 2, 3, 4] tab_ok rfl ?_)
                          refine d_tail ?_ (by kernel_rfl)
                          refine s_a tab_ok rfl ?_
                          refine tops_nil ?_
                          refine way_block ?_
                          refine way_then ?_
                          refine w_norm [12, 13, 15, 16, 128, 129, 133, 134] rfl rfl ?_
                          refine twp_region ?_
                          obtain ⟨g62, hm⟩ := guard_inv hm
                          refine s_x rfl rfl (x_ar rfl rfl rfl rfl g62) ?_
                          refine s_a tab_ok rfl ?_
                          refine tops_nil ?_
                          refine way_then ?_
                          exact ⟨_, [0, 1, 2, 3, 4], (Option.some.inj hm).symm, rfl, k0, rfl⟩
                      · replace hm := ite_F h55 hm
                        refine twp_exit ?_
                        refine way_thenExit ?_
                        obtain ⟨v63, hm, hz⟩ := inr_inv hm
                        rw [hz54 _ hz] at hm
                        refine way_thenExit ?_
                        refine way_here ?_
                        refine way_then ?_
                        exact ⟨_, [0, 1, 2, 3, 4], (Option.some.inj hm).symm, rfl, k0, rfl⟩
                    · refine w_norm [12, 13, 16, 128, 129] rfl rfl ?_
                      refine twp_rseq ?_
                      iterate 2 (refine s_a tab_ok rfl ?_)
                      refine tops_nil ?_
                      refine w_norm [12, 13, 128, 129, 151] rfl rfl ?_
                      refine twp_cond _ rfl (fun h64 => ?_) (fun h64 => ?_)
                      · replace hm := iteB_T h64 hm
                        refine twp_rseq ?_
                        refine s_a tab_ok rfl ?_
                        refine tops_nil ?_
                        refine w_norm [8] rfl rfl ?_
                        refine twp_ret ?_
                        refine way_blockRet ?_
                        obtain ⟨v65, hm, hz⟩ := inr_inv hm
                        rw [hz47 _ hz] at hm
                        refine way_thenRet ?_
                        obtain ⟨v66, hm, hz⟩ := inr_inv hm
                        rw [hz45 _ hz] at hm
                        refine way_thenRet ?_
                        refine way_blockRet ?_
                        obtain ⟨v67, hm, hz⟩ := inr_inv hm
                        rw [hz42 _ hz] at hm
                        refine way_thenRet ?_
                        obtain rfl := Option.some.inj hm
                        exact EndsS.one _ rfl (.d _) (.refl _)
                      · replace hm := iteB_F h64 hm
                        refine twp_skip ?_
                        refine way_block ?_
                        refine way_then ?_
                        exact ⟨_, [0, 1, 2, 3, 4], (Option.some.inj hm).symm, rfl, k0, rfl⟩
                  · refine w_norm [12, 13, 128, 129] rfl rfl ?_
                    refine twp_region ?_
                    obtain ⟨g68, hm⟩ := guard_inv hm
                    refine s_x rfl rfl (x_ar rfl rfl rfl rfl g68) ?_
                    refine s_a tab_ok rfl ?_
                    refine tops_nil ?_
                    refine way_then ?_
                    exact ⟨_, [0, 1, 2, 3, 4], (Option.some.inj hm).symm, rfl, k0, rfl⟩
                · replace hm := ite_F h46 hm
                  refine twp_exit ?_
                  refine way_thenExit ?_
                  obtain ⟨v69, hm, hz⟩ := inr_inv hm
                  rw [hz45 _ hz] at hm
                  refine way_thenExit ?_
                  refine way_here ?_
                  refine way_then ?_
                  exact ⟨_, [0, 1, 2, 3, 4], (Option.some.inj hm).symm, rfl, k0, rfl⟩
              · refine w_norm [] rfl rfl ?_
                refine twp_rseq ?_
                obtain ⟨r70, hr70, hm⟩ := bind_inv hm
                refine s_x rfl rfl (rd_callRN rfl rfl snaps_nil (law22_alive_c hr70)) ?_
                refine s_a tab_ok rfl ?_
                refine tops_nil ?_
                refine w_norm [8] rfl rfl ?_
                refine twp_ret ?_
                obtain rfl := Option.some.inj hm
                exact EndsS.one _ rfl (.d _) (.refl _)

theorem law22_ProgressReleases_w {p0 : Table} {p1 : Inter} {p2 : Int} {r : Bool} (hm : law22_ProgressReleases p0 p1 p2 = some r) : Ret Try.prog 6 [] (fun _ => false) ([p0.enc, p1.enc, .int .i64 p2].map .d) (.d (.bool (r))) [] := by
  refine ret_bodyS callB6 Try.func6 rfl Try.ntmps6 rfl rfl (fun wX gX => ?_)
  unfold law22_ProgressReleases at hm
  refine w_norm [0, 1, 2] rfl rfl ?_
  refine twp_rseq ?_
  refine s_bx 0 rfl rfl rfl ?_
  refine s_bx 1 rfl rfl rfl ?_
  refine s_a tab_ok rfl ?_
  refine tops_nil ?_
  refine w_norm [2, 3, 4] rfl rfl ?_
  refine twp_seq ?_
  refine w_joinM hm (fun x1 => ([(30, .d (.bool (x1)))] : Fr)) (fun x1 => ([] : List (Nat × Blk))) [30] [2, 3, 4] rfl (fun z2 hm => ?_) (fun x1 hm => ?_)
  · refine twp_region ?_
    iterate 2 (refine s_a tab_ok rfl ?_)
    obtain ⟨r3, hr3, hm⟩ := bind_inv hm
    refine s_x rfl rfl (rd_callRN rfl rfl (snaps_cons (.d _) (snaps_cons (.d _) snaps_nil)) (law21_Small_c hr3)) ?_
    refine s_a tab_ok rfl ?_
    refine s_b tab_ok rfl (fun q4 hq4 => ?_)
    cases q4
    · replace hm := iteB_F hq4 hm
      iterate 2 (refine s_a tab_ok rfl ?_)
      obtain ⟨r5, hr5, hm⟩ := bind_inv hm
      refine s_x rfl rfl (rd_callRN rfl rfl (snaps_cons (.d _) (snaps_cons (.d _) snaps_nil)) (ref21_Fits_c hr5)) ?_
      iterate 2 (refine s_a tab_ok rfl ?_)
      refine s_b tab_ok rfl (fun q6 hq6 => ?_)
      cases q6
      · replace hm := iteB_F hq6 hm
        iterate 3 (refine s_a tab_ok rfl ?_)
        refine s_b tab_ok rfl (fun q7 hq7 => ?_)
        cases q7
        · replace hm := ite_F hq7 hm
          iterate 3 (refine s_a tab_ok rfl ?_)
          refine s_x rfl rfl (x_len tab_ok rfl rfl rfl) ?_
          iterate 2 (refine s_a tab_ok rfl ?_)
          refine tops_nil ?_
          refine way_then ?_
          exact ⟨_, [0, 1], (Option.some.inj hm).symm, rfl, k0, rfl⟩
        · replace hm := ite_T hq7 hm
          iterate 6 (refine s_a tab_ok rfl ?_)
          refine tops_nil ?_
          refine way_then ?_
          exact ⟨_, [0, 1], (Option.some.inj hm).symm, rfl, k0, rfl⟩
      · replace hm := iteB_T hq6 hm
        iterate 10 (refine s_a tab_ok rfl ?_)
        refine tops_nil ?_
        refine way_then ?_
        exact ⟨_, [0, 1], (Option.some.inj hm).symm, rfl, k0, rfl⟩
    · replace hm := iteB_T hq4 hm
      iterate 16 (refine s_a tab_ok rfl ?_)
      refine tops_nil ?_
      refine way_then ?_
      exact ⟨_, [0, 1], (Option.some.inj hm).symm, rfl, k0, rfl⟩
  · refine w_norm [2, 3, 4, 30] rfl rfl ?_
    refine twp_cond _ rfl (fun h8 => ?_) (fun h8 => ?_)
    · replace hm := iteB_T h8 hm
      refine twp_rseq ?_
      obtain ⟨r9, hr9, hm⟩ := bind_inv hm
      refine s_x rfl rfl (rd_callRN rfl rfl snaps_nil (law22_alive_c hr9)) ?_
      refine s_a tab_ok rfl ?_
      refine tops_nil ?_
      refine w_norm [6] rfl rfl ?_
      refine twp_ret ?_
      refine way_thenRet ?_
      obtain rfl := Option.some.inj hm
      exact EndsS.one _ rfl (.d _) (.refl _)
    · replace hm := iteB_F h8 hm
      refine twp_skip ?_
      refine way_then ?_
      refine w_norm [2, 3, 4] rfl rfl ?_
      refine twp_hole ?_
      refine twp_dseq follows  ?_
      refine d_a [] tab_ok rfl ?_
      refine d_a [0] tab_ok rfl ?_
      obtain ⟨g10, hm⟩ := guard_inv hm
      refine d_x [] rfl rfl (x_make (f := D.bool) (x := false) tab_ok rfl rfl zero4 rfl rfl rfl rfl rfl g10 rfl) ?_
      refine d_a [] tab_ok rfl ?_
      refine d_a [0] tab_ok rfl ?_
      refine d_x [] rfl rfl (x_len tab_ok rfl rfl rfl) ?_
      obtain ⟨g11, hm⟩ := guard_inv hm
      refine d_x [] rfl rfl (x_make (f := D.bool) (x := false) tab_ok rfl rfl zero4 rfl rfl rfl rfl rfl g11 rfl) ?_
      refine d_a [] tab_ok rfl ?_
      refine d_x [] rfl rfl (x_lit [.tmp 39] tab_ok rfl rfl zero3 rfl rfl rfl rfl rfl) ?_
      refine d_x [] rfl rfl (build_d rfl plc31 zero31 rfl rfl rfl rfl) ?_
      refine d_wr [2] _ (.mptr 2 0 0 0) rfl (onE_A rfl) rfl (w_alloc rfl rfl zero31 rfl rfl) ?_
      refine d_tail ?_ (by kernel_rfl)
      refine s_a tab_ok rfl ?_
      refine s_wkb 2 [none, some 1, some 1, none, some 1, some 1, none] rfl rfl ?_
      refine tops_nil ?_
      refine w_norm [2, 3, 4, 7] rfl rfl ?_
      refine twp_hole ?_
      refine twp_hole ?_
      refine twp_dseq follows  ?_
      refine d_x [] rfl rfl (x_lit0 tab_ok rfl rfl zero36 rfl) ?_
      refine d_a [] tab_ok rfl ?_
      refine d_a [1] tab_ok rfl ?_
      obtain ⟨g12, hm⟩ := guard_inv hm
      refine d_wr [3] _ (.msl 3 3 0 (([] : List RouteState) ++ p1.routes).length) rfl (onE_A rfl) rfl (w_appN (f := RouteState.enc) (([] : List RouteState) ++ p1.routes) rfl rfl tab_ok rfl zero36 rfl rfl rfl rfl src_d g12) ?_
      refine d_a [] tab_ok rfl ?_
      refine d_a [1] tab_ok rfl ?_
      refine d_x [] rfl rfl (rd_build rfl plc28 zero28 rfl rfl rfl rfl) ?_
      refine d_wr [4] _ (.mptr 4 0 0 0) rfl (onE_A rfl) rfl (w_alloc rfl rfl zero28 rfl rfl) ?_
      refine d_tail ?_ (by kernel_rfl)
      refine s_a tab_ok rfl ?_
      refine tops_nil ?_
      refine w_norm [2, 3, 7, 8] rfl rfl ?_
      refine w_joinM hm (fun b13 => ([] : Fr)) (fun b13 => ([(3, .flat 36 3 (b13.map RouteState.enc)), (4, .box 28 [.msl 3 3 0 b13.length, .d (.sl 1 (p1.lies.map (D.int .i64)))])] : List (Nat × Blk))) [] [2, 8] rfl (fun z14 hm => ?_) (fun b13 hm => ?_)
      · refine twp_rseq ?_
        refine s_a tab_ok rfl ?_
        refine tops_nil ?_
        refine w_norm [2, 3, 7, 8, 9] rfl rfl ?_
        refine twp_block ?_
        refine w_loop hm (fun (x18, b19) => ([(9, .d (.int .i64 x18))] : Fr)) (fun (x18, b19) => ([(3, .flat 36 3 (b19.map RouteState.enc)), (4, .box 28 [.msl 3 3 0 b19.length, .d (.sl 1 (p1.lies.map (D.int .i64)))])] : List (Nat × Blk))) [9] [2, 3, 7, 8] [0, 1, 2, 3, 4] rfl k0 rfl rfl rfl rfl rfl (fun s z20 hm hz20 => ?_)
        obtain ⟨x18, b19⟩ := s
        refine w_norm [2, 3, 7, 8, 9] rfl rfl ?_
        refine twp_seq ?_
        refine twp_rseq ?_
        iterate 2 (refine s_a tab_ok rfl ?_)
        refine tops_nil ?_
        refine w_norm [2, 3, 7, 8, 9, 50] rfl rfl ?_
        refine twp_cond _ rfl (fun h21 => ?_) (fun h21 => ?_)
        · replace hm := ite_T h21 hm
          refine twp_skip ?_
          refine way_then ?_
          refine w_norm [2, 3, 7, 8, 9] rfl rfl ?_
          refine twp_seq ?_
          refine twp_block ?_
          refine twp_draw follows  ?_
          iterate 7 (refine d_a [0, 1, 2, 3, 4] tab_ok rfl ?_)
          obtain ⟨r22, hr22, hm⟩ := bind_inv hm
          refine d_x [0, 1, 2, 3, 4] rfl rfl (rd_callRN rfl rfl (snaps_cons (.d _) (snaps_cons (snap_agg (.cons (snap_map rfl) rfl (.cons (.d _) rfl .nil))) (snaps_cons (.d _) (snaps_cons (.d _) snaps_nil)))) (progress_Next_c hr22)) ?_
          obtain ⟨e23, he23, hm⟩ := get_inv hm
          refine d_x [0, 1, 2, 3, 4] rfl rfl (x_ixo tab_ok rfl rfl rfl rfl he23 rfl) ?_
          refine d_tail ?_ (by kernel_rfl)
          refine s_sto (x' := r22) tab_ok rfl rfl rfl rfl rfl he23.2 rfl rfl rfl ?_
          refine s_lno 54 (b19.set p2.toNat r22).length rfl List.length_set.symm ?_
          refine s_eqB 4 [.msl 3 3 0 (b19.set p2.toNat r22).length, .d (.sl 1 (p1.lies.map (D.int .i64)))] rfl (by simp only [List.length_set]) ?_
          refine tops_nil ?_
          refine way_block ?_
          refine way_then ?_
          refine w_norm [2, 3, 7, 8, 9] rfl rfl ?_
          refine twp_region ?_
          refine s_a tab_ok rfl ?_
          obtain ⟨g24, hm⟩ := guard_inv hm
          refine s_x rfl rfl (x_ar rfl rfl rfl rfl g24) ?_
          refine s_a tab_ok rfl ?_
          refine tops_nil ?_
          refine way_then ?_
          exact ⟨_, [0, 1, 2, 3, 4], (Option.some.inj hm).symm, rfl, k0, rfl⟩
        · replace hm := ite_F h21 hm
          refine twp_exit ?_
          refine way_thenExit ?_
          obtain ⟨v25, hm, hz⟩ := inr_inv hm
          rw [hz20 _ hz] at hm
          refine way_thenExit ?_
          refine way_here ?_
          refine way_then ?_
          exact ⟨_, [0, 1, 2, 3, 4], (Option.some.inj hm).symm, rfl, k0, rfl⟩
      · refine w_norm [2, 8] rfl rfl ?_
        refine w_joinM hm (fun x26 => ([(6, .d (.bool (x26)))] : Fr)) (fun x26 => ([] : List (Nat × Blk))) [6] [] rfl (fun z27 hm => ?_) (fun x26 hm => ?_)
        · refine twp_region ?_
          iterate 3 (refine s_a tab_ok rfl ?_)
          obtain ⟨e28, he28, hm⟩ := get_inv hm
          refine s_x rfl rfl (x_ixo tab_ok rfl rfl rfl rfl he28 rfl) ?_
          refine s_x rfl rfl (x_ldo tab_ok rfl rfl rfl rfl he28.2 rfl) ?_
          refine s_x rfl rfl (build_d rfl plc36 zero36 rfl rfl rfl rfl) ?_
          obtain ⟨g29, hm⟩ := guard_inv hm
          refine s_x rfl rfl (RouteState_eq rfl rfl rfl g29.1 g29.2) ?_
          refine s_b tab_ok rfl (fun q31 hq31 => ?_)
          cases q31
          · replace hm := ite_F hq31 hm
            iterate 3 (refine s_a tab_ok rfl ?_)
            refine tops_nil ?_
            refine way_then ?_
            exact ⟨_, [0, 1, 2, 3, 4], (Option.some.inj hm).symm, rfl, k0, rfl⟩
          · replace hm := ite_T hq31 hm
            obtain ⟨r32, hr32, hm⟩ := bind_inv hm
            refine s_x rfl rfl (rd_callRN rfl rfl snaps_nil (law22_alive_c hr32)) ?_
            iterate 2 (refine s_a tab_ok rfl ?_)
            refine tops_nil ?_
            refine way_then ?_
            exact ⟨_, [0, 1, 2, 3, 4], (Option.some.inj hm).symm, rfl, k0, rfl⟩
        · refine w_norm [6] rfl rfl ?_
          refine twp_ret ?_
          obtain rfl := Option.some.inj hm
          exact EndsS.one _ rfl (.d _) (.refl _)

end Go.Proofs.Ytkhdhopgiooloaa
