/- The functions return what their models yield. No condition. -/
import Derived.Test.YthkgkolgdkcngaaGnU
import Derived.Test.YthkgkolgdkcngaaGnM
import Derived.Test.YthkgkolgdkcngaaGnW3
set_option maxHeartbeats 400000
set_option linter.unusedSimpArgs false
set_option linter.unusedVariables false
set_option maxRecDepth 20000
namespace Go.Proofs.Ythkgkolgdkcngaa
open Go Go.TL

theorem ref16_Find_c {p0 : Table} {p1 : ByteArray} {r : Int} (hm : ref16_Find p0 p1 = some r) : RetN Try.prog 39 [p0.enc, .str p1] (.int .i64 r) := by
  refine .unit (ret_bodyS callB39 Try.func39 rfl Try.ntmps39 rfl rfl (fun wX gX => ?_)) rfl
  unfold ref16_Find at hm
  refine w_norm [0, 1] rfl rfl ?_
  refine twp_rseq ?_
  refine s_bx 0 rfl rfl rfl ?_
  refine s_a tab_ok rfl ?_
  refine tops_nil ?_
  refine w_norm [1, 2] rfl rfl ?_
  refine w_joinS hm (fun _ => ([] : Fr)) (fun _ => ([] : List (Nat × Blk))) [] [] rfl (fun z1 hm hz1 => ?_) (fun j hm => ?_)
  · refine twp_rseq ?_
    iterate 2 (refine s_a tab_ok rfl ?_)
    refine s_x rfl rfl (x_len tab_ok rfl rfl rfl) ?_
    refine s_a tab_ok rfl ?_
    refine tops_nil ?_
    refine w_norm [1, 8, 9, 10] rfl rfl ?_
    refine twp_block ?_
    refine w_loop hm (fun x3 => ([(10, .d (.int .i64 x3))] : Fr)) (fun x3 => ([] : List (Nat × Blk))) [10] [1, 8, 9] [0] rfl k0 rfl rfl rfl rfl rfl (fun x3 z4 hm hz4 => ?_)
    refine w_norm [1, 8, 9, 10] rfl rfl ?_
    refine twp_rseq ?_
    refine s_a tab_ok rfl ?_
    refine tops_nil ?_
    refine w_norm [1, 8, 9, 10, 11] rfl rfl ?_
    refine twp_seq ?_
    refine twp_cond _ rfl (fun h5 => ?_) (fun h5 => ?_)
    · replace hm := ite_T h5 hm
      refine twp_skip ?_
      refine way_then ?_
      refine w_norm [1, 8, 9, 10] rfl rfl ?_
      refine twp_seq ?_
      refine twp_block ?_
      refine twp_rseq ?_
      refine s_a tab_ok rfl ?_
      obtain ⟨e6, he6, hm⟩ := get_inv hm
      refine s_x rfl rfl (x_ix tab_ok rfl rfl rfl rfl he6) ?_
      refine s_a tab_ok rfl ?_
      refine s_al 1 rfl rfl zero55 rfl ?_
      refine s_wkb 1 [none, none, none, some 3, some 2, some 1, none, none, some 3, some 2, some 1, some 2, some 1, some 2] rfl rfl ?_
      iterate 2 (refine s_a tab_ok rfl ?_)
      refine tops_nil ?_
      refine w_norm [1, 5, 6, 8, 9, 10] rfl rfl ?_
      refine twp_rseq ?_
      iterate 4 (refine s_a tab_ok rfl ?_)
      refine tops_nil ?_
      refine w_norm [1, 5, 8, 9, 10, 18] rfl rfl ?_
      refine twp_cond _ rfl (fun h7 => ?_) (fun h7 => ?_)
      · replace hm := ite_T h7 hm
        refine twp_rseq ?_
        iterate 2 (refine s_a tab_ok rfl ?_)
        refine tops_nil ?_
        refine w_norm [4] rfl rfl ?_
        refine twp_ret ?_
        refine way_blockRet ?_
        refine way_thenRet ?_
        obtain ⟨v8, hm, hz⟩ := inr_inv hm
        rw [hz4 _ hz] at hm
        refine way_thenRet ?_
        refine way_blockRet ?_
        obtain ⟨v9, hm, hz⟩ := inr_inv hm
        rw [hz1 _ hz] at hm
        refine way_thenRet ?_
        obtain rfl := Option.some.inj hm
        exact EndsS.one _ rfl (.d _) (.refl _)
      · replace hm := ite_F h7 hm
        refine twp_skip ?_
        refine way_block ?_
        refine way_then ?_
        refine w_norm [1, 8, 9, 10] rfl rfl ?_
        refine twp_region ?_
        obtain ⟨g10, hm⟩ := guard_inv hm
        refine s_x rfl rfl (x_ar rfl rfl rfl rfl g10) ?_
        refine s_a tab_ok rfl ?_
        refine tops_nil ?_
        refine way_then ?_
        exact ⟨_, [0], (Option.some.inj hm).symm, rfl, k0, rfl⟩
    · replace hm := ite_F h5 hm
      refine twp_exit ?_
      refine way_thenExit ?_
      obtain ⟨v11, hm, hz⟩ := inr_inv hm
      rw [hz4 _ hz] at hm
      refine way_thenExit ?_
      refine way_here ?_
      refine way_then ?_
      exact ⟨_, [0], (Option.some.inj hm).symm, rfl, k0, rfl⟩
  · refine w_norm [] rfl rfl ?_
    refine twp_rseq ?_
    refine s_a tab_ok rfl ?_
    refine tops_nil ?_
    refine w_norm [4] rfl rfl ?_
    refine twp_ret ?_
    obtain rfl := Option.some.inj hm
    exact EndsS.one _ rfl (.d _) (.refl _)

theorem ref16_Check_c {p0 : Table} {r : Int} (hm : ref16_Check p0 = some r) : RetN Try.prog 22 [p0.enc] (.int .i64 r) := by
  refine .unit (ret_bodyS callB22 Try.func22 rfl Try.ntmps22 rfl rfl (fun wX gX => ?_)) rfl
  unfold ref16_Check at hm
  refine w_norm [0] rfl rfl ?_
  refine twp_rseq ?_
  refine s_bx 0 rfl rfl rfl ?_
  refine s_a tab_ok rfl ?_
  refine tops_nil ?_
  refine w_norm [1] rfl rfl ?_
  refine twp_seq ?_
  refine w_cut [(40, .d (.bool (((decide ((48 : Int) < (p0.routes.length : Int))) || ((decide ((32 : Int) < (p0.points.length : Int))) || ((decide (p0.sections < (0 : Int))) || ((decide ((24 : Int) < p0.sections)) || ((decide (p0.signals < (0 : Int))) || (decide ((20 : Int) < p0.signals))))))))))] [40] [1] rfl ?_ ?_
  · refine twp_region ?_
    iterate 2 (refine s_a tab_ok rfl ?_)
    refine s_x rfl rfl (x_len tab_ok rfl rfl rfl) ?_
    refine s_a tab_ok rfl ?_
    refine s_b tab_ok rfl (fun q1 hq1 => ?_)
    cases q1
    · iterate 2 (refine s_a tab_ok rfl ?_)
      refine s_x rfl rfl (x_len tab_ok rfl rfl rfl) ?_
      iterate 2 (refine s_a tab_ok rfl ?_)
      refine s_b tab_ok rfl (fun q2 hq2 => ?_)
      cases q2
      · iterate 4 (refine s_a tab_ok rfl ?_)
        refine s_b tab_ok rfl (fun q3 hq3 => ?_)
        cases q3
        · iterate 4 (refine s_a tab_ok rfl ?_)
          refine s_b tab_ok rfl (fun q4 hq4 => ?_)
          cases q4
          · iterate 4 (refine s_a tab_ok rfl ?_)
            refine s_b tab_ok rfl (fun q5 hq5 => ?_)
            cases q5
            · iterate 4 (refine s_a tab_ok rfl ?_)
              refine tops_nil ?_
              refine way_then ?_
              exact ⟨[0], rfl, k0, st_eq (fr_cons (av_bool (by simp [hq1, hq2, hq3, hq4, hq5])) rfl) rfl⟩
            · iterate 4 (refine s_a tab_ok rfl ?_)
              refine tops_nil ?_
              refine way_then ?_
              exact ⟨[0], rfl, k0, st_eq (fr_cons (av_bool (by simp [hq1, hq2, hq3, hq4, hq5])) rfl) rfl⟩
          · iterate 9 (refine s_a tab_ok rfl ?_)
            refine tops_nil ?_
            refine way_then ?_
            exact ⟨[0], rfl, k0, st_eq (fr_cons (av_bool (by simp [hq1, hq2, hq3, hq4])) rfl) rfl⟩
        · iterate 14 (refine s_a tab_ok rfl ?_)
          refine tops_nil ?_
          refine way_then ?_
          exact ⟨[0], rfl, k0, st_eq (fr_cons (av_bool (by simp [hq1, hq2, hq3])) rfl) rfl⟩
      · iterate 19 (refine s_a tab_ok rfl ?_)
        refine tops_nil ?_
        refine way_then ?_
        exact ⟨[0], rfl, k0, st_eq (fr_cons (av_bool (by simp [hq1, hq2])) rfl) rfl⟩
    · iterate 25 (refine s_a tab_ok rfl ?_)
      refine tops_nil ?_
      refine way_then ?_
      exact ⟨[0], rfl, k0, st_eq (fr_cons (av_bool (by simp [hq1])) rfl) rfl⟩
  · refine w_norm [1, 40] rfl rfl ?_
    refine twp_cond _ rfl (fun h6 => ?_) (fun h6 => ?_)
    · replace hm := iteB_T h6 hm
      refine twp_rseq ?_
      refine s_a tab_ok rfl ?_
      refine tops_nil ?_
      refine w_norm [2] rfl rfl ?_
      refine twp_ret ?_
      refine way_thenRet ?_
      obtain rfl := Option.some.inj hm
      exact EndsS.one _ rfl (.d _) (.refl _)
    · replace hm := iteB_F h6 hm
      refine twp_skip ?_
      refine way_then ?_
      refine w_norm [1] rfl rfl ?_
      refine twp_seq ?_
      refine twp_rseq ?_
      iterate 2 (refine s_a tab_ok rfl ?_)
      refine s_x rfl rfl (x_len tab_ok rfl rfl rfl) ?_
      iterate 2 (refine s_a tab_ok rfl ?_)
      refine s_x rfl rfl (x_len tab_ok rfl rfl rfl) ?_
      refine s_a tab_ok rfl ?_
      refine tops_nil ?_
      refine w_norm [1, 47] rfl rfl ?_
      refine twp_cond _ rfl (fun h7 => ?_) (fun h7 => ?_)
      · replace hm := iteN_T h7 hm
        refine twp_rseq ?_
        refine s_a tab_ok rfl ?_
        refine tops_nil ?_
        refine w_norm [2] rfl rfl ?_
        refine twp_ret ?_
        refine way_thenRet ?_
        obtain rfl := Option.some.inj hm
        exact EndsS.one _ rfl (.d _) (.refl _)
      · replace hm := iteN_F h7 hm
        refine twp_skip ?_
        refine way_then ?_
        refine w_norm [1] rfl rfl ?_
        refine w_joinS hm (fun _ => ([] : Fr)) (fun _ => ([] : List (Nat × Blk))) [] [1] rfl (fun z8 hm hz8 => ?_) (fun j hm => ?_)
        · refine twp_rseq ?_
          iterate 2 (refine s_a tab_ok rfl ?_)
          refine s_x rfl rfl (x_len tab_ok rfl rfl rfl) ?_
          refine s_a tab_ok rfl ?_
          refine tops_nil ?_
          refine w_norm [1, 49, 50, 51] rfl rfl ?_
          refine twp_block ?_
          refine w_loop hm (fun x10 => ([(51, .d (.int .i64 x10))] : Fr)) (fun x10 => ([] : List (Nat × Blk))) [51] [1, 49, 50] [0] rfl k0 rfl rfl rfl rfl rfl (fun x10 z11 hm hz11 => ?_)
          refine w_norm [1, 49, 50, 51] rfl rfl ?_
          refine twp_rseq ?_
          refine s_a tab_ok rfl ?_
          refine tops_nil ?_
          refine w_norm [1, 49, 50, 51, 52] rfl rfl ?_
          refine twp_seq ?_
          refine twp_cond _ rfl (fun h12 => ?_) (fun h12 => ?_)
          · replace hm := ite_T h12 hm
            refine twp_skip ?_
            refine way_then ?_
            refine w_norm [1, 49, 50, 51] rfl rfl ?_
            refine twp_seq ?_
            refine twp_block ?_
            refine twp_rseq ?_
            refine s_a tab_ok rfl ?_
            obtain ⟨e13, he13, hm⟩ := get_inv hm
            refine s_x rfl rfl (x_ix tab_ok rfl rfl rfl rfl he13) ?_
            iterate 3 (refine s_a tab_ok rfl ?_)
            refine tops_nil ?_
            refine w_norm [1, 3, 4, 49, 50, 51] rfl rfl ?_
            refine w_joinM hm (fun x14 => ([(89, .d (.bool (x14)))] : Fr)) (fun x14 => ([] : List (Nat × Blk))) [89] [1, 49, 50, 51] rfl (fun z15 hm => ?_) (fun x14 hm => ?_)
            · refine twp_draw follows  ?_
              iterate 2 (refine d_a [0] tab_ok rfl ?_)
              refine d_b [0] tab_ok rfl (fun q16 hq16 => ?_)
              cases q16
              · replace hm := ite_F hq16 hm
                iterate 2 (refine d_a [0] tab_ok rfl ?_)
                refine d_b [0] tab_ok rfl (fun q17 hq17 => ?_)
                cases q17
                · replace hm := ite_F hq17 hm
                  iterate 14 (refine d_a [0] tab_ok rfl ?_)
                  obtain ⟨e18, he18, hm⟩ := get_inv hm
                  refine d_x [0] rfl rfl (x_ix tab_ok rfl rfl rfl rfl he18) ?_
                  iterate 3 (refine d_a [0] tab_ok rfl ?_)
                  refine d_b [0] tab_ok rfl (fun q19 hq19 => ?_)
                  cases q19
                  · replace hm := ite_F hq19 hm
                    iterate 3 (refine d_a [0] tab_ok rfl ?_)
                    obtain ⟨e20, he20, hm⟩ := get_inv hm
                    refine d_x [0] rfl rfl (x_ix tab_ok rfl rfl rfl rfl he20) ?_
                    iterate 5 (refine d_a [0] tab_ok rfl ?_)
                    refine d_tail ?_ (by kernel_rfl)
                    refine tops_nil ?_
                    refine way_then ?_
                    exact ⟨_, [0], (Option.some.inj hm).symm, rfl, k0, rfl⟩
                  · replace hm := ite_T hq19 hm
                    iterate 9 (refine d_a [0] tab_ok rfl ?_)
                    refine d_tail ?_ (by kernel_rfl)
                    refine tops_nil ?_
                    refine way_then ?_
                    exact ⟨_, [0], (Option.some.inj hm).symm, rfl, k0, rfl⟩
                · replace hm := ite_T hq17 hm
                  iterate 3 (refine d_a [0] tab_ok rfl ?_)
                  obtain ⟨g21, hm⟩ := guard_inv hm
                  refine d_x [0] rfl rfl (x_ar rfl rfl rfl rfl g21) ?_
                  obtain ⟨e22, he22, hm⟩ := get_inv hm
                  refine d_x [0] rfl rfl (x_ix tab_ok rfl rfl rfl rfl he22) ?_
                  iterate 5 (refine d_a [0] tab_ok rfl ?_)
                  refine d_b [0] tab_ok rfl (fun q23 hq23 => ?_)
                  cases q23
                  · replace hm := ite_F hq23 hm
                    iterate 3 (refine d_a [0] tab_ok rfl ?_)
                    obtain ⟨e24, he24, hm⟩ := get_inv hm
                    refine d_x [0] rfl rfl (x_ix tab_ok rfl rfl rfl rfl he24) ?_
                    iterate 3 (refine d_a [0] tab_ok rfl ?_)
                    refine d_b [0] tab_ok rfl (fun q25 hq25 => ?_)
                    cases q25
                    · replace hm := ite_F hq25 hm
                      iterate 3 (refine d_a [0] tab_ok rfl ?_)
                      obtain ⟨e26, he26, hm⟩ := get_inv hm
                      refine d_x [0] rfl rfl (x_ix tab_ok rfl rfl rfl rfl he26) ?_
                      iterate 5 (refine d_a [0] tab_ok rfl ?_)
                      refine d_tail ?_ (by kernel_rfl)
                      refine tops_nil ?_
                      refine way_then ?_
                      exact ⟨_, [0], (Option.some.inj hm).symm, rfl, k0, rfl⟩
                    · replace hm := ite_T hq25 hm
                      iterate 9 (refine d_a [0] tab_ok rfl ?_)
                      refine d_tail ?_ (by kernel_rfl)
                      refine tops_nil ?_
                      refine way_then ?_
                      exact ⟨_, [0], (Option.some.inj hm).symm, rfl, k0, rfl⟩
                  · replace hm := ite_T hq23 hm
                    iterate 17 (refine d_a [0] tab_ok rfl ?_)
                    refine d_tail ?_ (by kernel_rfl)
                    refine tops_nil ?_
                    refine way_then ?_
                    exact ⟨_, [0], (Option.some.inj hm).symm, rfl, k0, rfl⟩
              · replace hm := ite_T hq16 hm
                iterate 31 (refine d_a [0] tab_ok rfl ?_)
                refine d_tail ?_ (by kernel_rfl)
                refine tops_nil ?_
                refine way_then ?_
                exact ⟨_, [0], (Option.some.inj hm).symm, rfl, k0, rfl⟩
            · refine w_norm [1, 49, 50, 51, 89] rfl rfl ?_
              refine twp_cond _ rfl (fun h27 => ?_) (fun h27 => ?_)
              · replace hm := iteB_T h27 hm
                refine twp_rseq ?_
                refine s_a tab_ok rfl ?_
                refine tops_nil ?_
                refine w_norm [2] rfl rfl ?_
                refine twp_ret ?_
                refine way_blockRet ?_
                refine way_thenRet ?_
                obtain ⟨v28, hm, hz⟩ := inr_inv hm
                rw [hz11 _ hz] at hm
                refine way_thenRet ?_
                refine way_blockRet ?_
                obtain ⟨v29, hm, hz⟩ := inr_inv hm
                rw [hz8 _ hz] at hm
                refine way_thenRet ?_
                obtain rfl := Option.some.inj hm
                exact EndsS.one _ rfl (.d _) (.refl _)
              · replace hm := iteB_F h27 hm
                refine twp_skip ?_
                refine way_block ?_
                refine way_then ?_
                refine w_norm [1, 49, 50, 51] rfl rfl ?_
                refine twp_region ?_
                obtain ⟨g30, hm⟩ := guard_inv hm
                refine s_x rfl rfl (x_ar rfl rfl rfl rfl g30) ?_
                refine s_a tab_ok rfl ?_
                refine tops_nil ?_
                refine way_then ?_
                exact ⟨_, [0], (Option.some.inj hm).symm, rfl, k0, rfl⟩
          · replace hm := ite_F h12 hm
            refine twp_exit ?_
            refine way_thenExit ?_
            obtain ⟨v31, hm, hz⟩ := inr_inv hm
            rw [hz11 _ hz] at hm
            refine way_thenExit ?_
            refine way_here ?_
            refine way_then ?_
            exact ⟨_, [0], (Option.some.inj hm).symm, rfl, k0, rfl⟩
        · refine w_norm [1] rfl rfl ?_
          refine w_joinS hm (fun _ => ([] : Fr)) (fun _ => ([] : List (Nat × Blk))) [] [1] rfl (fun z32 hm hz32 => ?_) (fun j hm => ?_)
          · refine twp_rseq ?_
            iterate 2 (refine s_a tab_ok rfl ?_)
            refine s_x rfl rfl (x_len tab_ok rfl rfl rfl) ?_
            refine s_a tab_ok rfl ?_
            refine tops_nil ?_
            refine w_norm [1, 92, 93, 94] rfl rfl ?_
            refine twp_block ?_
            refine w_loop hm (fun x34 => ([(94, .d (.int .i64 x34))] : Fr)) (fun x34 => ([] : List (Nat × Blk))) [94] [1, 92, 93] [0] rfl k0 rfl rfl rfl rfl rfl (fun x34 z35 hm hz35 => ?_)
            refine w_norm [1, 92, 93, 94] rfl rfl ?_
            refine twp_rseq ?_
            refine s_a tab_ok rfl ?_
            refine tops_nil ?_
            refine w_norm [1, 92, 93, 94, 95] rfl rfl ?_
            refine twp_seq ?_
            refine twp_cond _ rfl (fun h36 => ?_) (fun h36 => ?_)
            · replace hm := ite_T h36 hm
              refine twp_skip ?_
              refine way_then ?_
              refine w_norm [1, 92, 93, 94] rfl rfl ?_
              refine twp_seq ?_
              refine twp_block ?_
              refine twp_rseq ?_
              obtain ⟨e37, he37, hm⟩ := get_inv hm
              refine s_x rfl rfl (x_ix tab_ok rfl rfl rfl rfl he37) ?_
              refine s_a tab_ok rfl ?_
              refine s_al 1 rfl rfl zero55 rfl ?_
              refine s_wkb 1 [none, none, none, some 3, some 2, some 1, none, none, some 3, some 2, some 1, some 2, some 1, some 2] rfl rfl ?_
              refine s_a tab_ok rfl ?_
              refine tops_nil ?_
              refine w_norm [1, 6, 92, 93, 94] rfl rfl ?_
              refine w_joinM hm (fun x38 => ([(122, .d (.bool (x38)))] : Fr)) (fun x38 => ([] : List (Nat × Blk))) [122] [1, 92, 93, 94] rfl (fun z39 hm => ?_) (fun x38 hm => ?_)
              · refine twp_region ?_
                iterate 2 (refine s_a tab_ok rfl ?_)
                obtain ⟨r40, hr40, hm⟩ := bind_inv hm
                refine s_x rfl rfl (rd_callRN rfl rfl (snaps_cons (.d _) (snaps_cons (.d _) snaps_nil)) (ref16_right_c hr40)) ?_
                refine s_a tab_ok rfl ?_
                refine s_b tab_ok rfl (fun q41 hq41 => ?_)
                cases q41
                · replace hm := iteB_F hq41 hm
                  iterate 3 (refine s_a tab_ok rfl ?_)
                  obtain ⟨r42, hr42, hm⟩ := bind_inv hm
                  refine s_x rfl rfl (rd_callRN rfl rfl (snaps_cons (.d _) (snaps_cons (.d _) snaps_nil)) (ref16_settings_c hr42)) ?_
                  iterate 2 (refine s_a tab_ok rfl ?_)
                  refine s_b tab_ok rfl (fun q43 hq43 => ?_)
                  cases q43
                  · replace hm := iteB_F hq43 hm
                    iterate 3 (refine s_a tab_ok rfl ?_)
                    obtain ⟨r44, hr44, hm⟩ := bind_inv hm
                    refine s_x rfl rfl (rd_callRN rfl rfl (snaps_cons (.d _) (snaps_cons (.d _) snaps_nil)) (ref16_settings_c hr44)) ?_
                    iterate 2 (refine s_a tab_ok rfl ?_)
                    refine s_b tab_ok rfl (fun q45 hq45 => ?_)
                    cases q45
                    · replace hm := iteB_F hq45 hm
                      iterate 3 (refine s_a tab_ok rfl ?_)
                      obtain ⟨r46, hr46, hm⟩ := bind_inv hm
                      refine s_x rfl rfl (rd_callRN rfl rfl (snaps_cons (.d _) (snaps_cons (.d _) snaps_nil)) (ref16_settings_c hr46)) ?_
                      iterate 2 (refine s_a tab_ok rfl ?_)
                      refine tops_nil ?_
                      refine way_then ?_
                      exact ⟨_, [0, 1], (Option.some.inj hm).symm, rfl, k0, rfl⟩
                    · replace hm := iteB_T hq45 hm
                      iterate 6 (refine s_a tab_ok rfl ?_)
                      refine tops_nil ?_
                      refine way_then ?_
                      exact ⟨_, [0, 1], (Option.some.inj hm).symm, rfl, k0, rfl⟩
                  · replace hm := iteB_T hq43 hm
                    iterate 13 (refine s_a tab_ok rfl ?_)
                    refine tops_nil ?_
                    refine way_then ?_
                    exact ⟨_, [0, 1], (Option.some.inj hm).symm, rfl, k0, rfl⟩
                · replace hm := iteB_T hq41 hm
                  iterate 20 (refine s_a tab_ok rfl ?_)
                  refine tops_nil ?_
                  refine way_then ?_
                  exact ⟨_, [0, 1], (Option.some.inj hm).symm, rfl, k0, rfl⟩
              · refine w_norm [1, 92, 93, 94, 122] rfl rfl ?_
                refine twp_cond _ rfl (fun h47 => ?_) (fun h47 => ?_)
                · replace hm := iteB_T h47 hm
                  refine twp_rseq ?_
                  refine s_a tab_ok rfl ?_
                  refine tops_nil ?_
                  refine w_norm [2] rfl rfl ?_
                  refine twp_ret ?_
                  refine way_blockRet ?_
                  refine way_thenRet ?_
                  obtain ⟨v48, hm, hz⟩ := inr_inv hm
                  rw [hz35 _ hz] at hm
                  refine way_thenRet ?_
                  refine way_blockRet ?_
                  obtain ⟨v49, hm, hz⟩ := inr_inv hm
                  rw [hz32 _ hz] at hm
                  refine way_thenRet ?_
                  obtain rfl := Option.some.inj hm
                  exact EndsS.one _ rfl (.d _) (.refl _)
                · replace hm := iteB_F h47 hm
                  refine twp_skip ?_
                  refine way_block ?_
                  refine way_then ?_
                  refine w_norm [1, 92, 93, 94] rfl rfl ?_
                  refine twp_region ?_
                  obtain ⟨g50, hm⟩ := guard_inv hm
                  refine s_x rfl rfl (x_ar rfl rfl rfl rfl g50) ?_
                  refine s_a tab_ok rfl ?_
                  refine tops_nil ?_
                  refine way_then ?_
                  exact ⟨_, [0], (Option.some.inj hm).symm, rfl, k0, rfl⟩
            · replace hm := ite_F h36 hm
              refine twp_exit ?_
              refine way_thenExit ?_
              obtain ⟨v51, hm, hz⟩ := inr_inv hm
              rw [hz35 _ hz] at hm
              refine way_thenExit ?_
              refine way_here ?_
              refine way_then ?_
              exact ⟨_, [0], (Option.some.inj hm).symm, rfl, k0, rfl⟩
          · refine w_norm [1] rfl rfl ?_
            refine w_joinS hm (fun _ => ([] : Fr)) (fun _ => ([] : List (Nat × Blk))) [] [1] rfl (fun z52 hm hz52 => ?_) (fun j hm => ?_)
            · refine twp_rseq ?_
              iterate 2 (refine s_a tab_ok rfl ?_)
              refine s_x rfl rfl (x_len tab_ok rfl rfl rfl) ?_
              refine s_a tab_ok rfl ?_
              refine tops_nil ?_
              refine w_norm [1, 125, 126, 127] rfl rfl ?_
              refine twp_block ?_
              refine w_loop hm (fun x54 => ([(127, .d (.int .i64 x54))] : Fr)) (fun x54 => ([] : List (Nat × Blk))) [127] [1, 125, 126] [0] rfl k0 rfl rfl rfl rfl rfl (fun x54 z55 hm hz55 => ?_)
              refine w_norm [1, 125, 126, 127] rfl rfl ?_
              refine twp_rseq ?_
              refine s_a tab_ok rfl ?_
              refine tops_nil ?_
              refine w_norm [1, 125, 126, 127, 128] rfl rfl ?_
              refine twp_seq ?_
              refine twp_cond _ rfl (fun h56 => ?_) (fun h56 => ?_)
              · replace hm := ite_T h56 hm
                refine twp_skip ?_
                refine way_then ?_
                refine w_norm [1, 125, 126, 127] rfl rfl ?_
                refine twp_seq ?_
                refine twp_block ?_
                refine twp_rseq ?_
                obtain ⟨e57, he57, hm⟩ := get_inv hm
                refine s_x rfl rfl (x_ix tab_ok rfl rfl rfl rfl he57) ?_
                refine s_a tab_ok rfl ?_
                refine s_al 1 rfl rfl zero55 rfl ?_
                refine s_wkb 1 [none, none, none, some 3, some 2, some 1, none, none, some 3, some 2, some 1, some 2, some 1, some 2] rfl rfl ?_
                refine s_a tab_ok rfl ?_
                refine tops_nil ?_
                refine w_norm [1, 8, 125, 126, 127] rfl rfl ?_
                refine w_joinM hm (fun x58 => ([(152, .d (.bool (x58)))] : Fr)) (fun x58 => ([] : List (Nat × Blk))) [152] [1, 125, 126, 127] rfl (fun z59 hm => ?_) (fun x58 hm => ?_)
                · refine twp_region ?_
                  iterate 4 (refine s_a tab_ok rfl ?_)
                  obtain ⟨r60, hr60, hm⟩ := bind_inv hm
                  refine s_x rfl rfl (rd_callRN rfl rfl (snaps_cons (.d _) (snaps_cons (.d _) snaps_nil)) (ref16_agree_c hr60)) ?_
                  refine s_a tab_ok rfl ?_
                  refine s_b tab_ok rfl (fun q61 hq61 => ?_)
                  cases q61
                  · replace hm := iteB_F hq61 hm
                    iterate 4 (refine s_a tab_ok rfl ?_)
                    obtain ⟨r62, hr62, hm⟩ := bind_inv hm
                    refine s_x rfl rfl (rd_callRN rfl rfl (snaps_cons (.d _) (snaps_cons (.d _) snaps_nil)) (ref16_agree_c hr62)) ?_
                    iterate 2 (refine s_a tab_ok rfl ?_)
                    refine s_b tab_ok rfl (fun q63 hq63 => ?_)
                    cases q63
                    · replace hm := iteB_F hq63 hm
                      iterate 4 (refine s_a tab_ok rfl ?_)
                      obtain ⟨r64, hr64, hm⟩ := bind_inv hm
                      refine s_x rfl rfl (rd_callRN rfl rfl (snaps_cons (.d _) (snaps_cons (.d _) snaps_nil)) (ref16_agree_c hr64)) ?_
                      iterate 2 (refine s_a tab_ok rfl ?_)
                      refine tops_nil ?_
                      refine way_then ?_
                      exact ⟨_, [0, 1], (Option.some.inj hm).symm, rfl, k0, rfl⟩
                    · replace hm := iteB_T hq63 hm
                      iterate 7 (refine s_a tab_ok rfl ?_)
                      refine tops_nil ?_
                      refine way_then ?_
                      exact ⟨_, [0, 1], (Option.some.inj hm).symm, rfl, k0, rfl⟩
                  · replace hm := iteB_T hq61 hm
                    iterate 15 (refine s_a tab_ok rfl ?_)
                    refine tops_nil ?_
                    refine way_then ?_
                    exact ⟨_, [0, 1], (Option.some.inj hm).symm, rfl, k0, rfl⟩
                · refine w_norm [1, 125, 126, 127, 152] rfl rfl ?_
                  refine twp_cond _ rfl (fun h65 => ?_) (fun h65 => ?_)
                  · replace hm := iteB_T h65 hm
                    refine twp_rseq ?_
                    refine s_a tab_ok rfl ?_
                    refine tops_nil ?_
                    refine w_norm [2] rfl rfl ?_
                    refine twp_ret ?_
                    refine way_blockRet ?_
                    refine way_thenRet ?_
                    obtain ⟨v66, hm, hz⟩ := inr_inv hm
                    rw [hz55 _ hz] at hm
                    refine way_thenRet ?_
                    refine way_blockRet ?_
                    obtain ⟨v67, hm, hz⟩ := inr_inv hm
                    rw [hz52 _ hz] at hm
                    refine way_thenRet ?_
                    obtain rfl := Option.some.inj hm
                    exact EndsS.one _ rfl (.d _) (.refl _)
                  · replace hm := iteB_F h65 hm
                    refine twp_skip ?_
                    refine way_block ?_
                    refine way_then ?_
                    refine w_norm [1, 125, 126, 127] rfl rfl ?_
                    refine twp_region ?_
                    obtain ⟨g68, hm⟩ := guard_inv hm
                    refine s_x rfl rfl (x_ar rfl rfl rfl rfl g68) ?_
                    refine s_a tab_ok rfl ?_
                    refine tops_nil ?_
                    refine way_then ?_
                    exact ⟨_, [0], (Option.some.inj hm).symm, rfl, k0, rfl⟩
              · replace hm := ite_F h56 hm
                refine twp_exit ?_
                refine way_thenExit ?_
                obtain ⟨v69, hm, hz⟩ := inr_inv hm
                rw [hz55 _ hz] at hm
                refine way_thenExit ?_
                refine way_here ?_
                refine way_then ?_
                exact ⟨_, [0], (Option.some.inj hm).symm, rfl, k0, rfl⟩
            · refine w_norm [1] rfl rfl ?_
              refine w_joinS hm (fun _ => ([] : Fr)) (fun _ => ([] : List (Nat × Blk))) [] [] rfl (fun z70 hm hz70 => ?_) (fun j hm => ?_)
              · refine twp_rseq ?_
                iterate 2 (refine s_a tab_ok rfl ?_)
                refine s_x rfl rfl (x_len tab_ok rfl rfl rfl) ?_
                refine s_a tab_ok rfl ?_
                refine tops_nil ?_
                refine w_norm [1, 155, 156, 157] rfl rfl ?_
                refine twp_block ?_
                refine w_loop hm (fun x72 => ([(157, .d (.int .i64 x72))] : Fr)) (fun x72 => ([] : List (Nat × Blk))) [157] [1, 155, 156] [0] rfl k0 rfl rfl rfl rfl rfl (fun x72 z73 hm hz73 => ?_)
                refine w_norm [1, 155, 156, 157] rfl rfl ?_
                refine twp_rseq ?_
                refine s_a tab_ok rfl ?_
                refine tops_nil ?_
                refine w_norm [1, 155, 156, 157, 158] rfl rfl ?_
                refine twp_seq ?_
                refine twp_cond _ rfl (fun h74 => ?_) (fun h74 => ?_)
                · replace hm := ite_T h74 hm
                  refine twp_skip ?_
                  refine way_then ?_
                  refine w_norm [1, 155, 156, 157] rfl rfl ?_
                  refine twp_seq ?_
                  refine twp_block ?_
                  refine twp_rseq ?_
                  refine s_a tab_ok rfl ?_
                  obtain ⟨e75, he75, hm⟩ := get_inv hm
                  refine s_x rfl rfl (x_ix tab_ok rfl rfl rfl rfl he75) ?_
                  refine s_a tab_ok rfl ?_
                  refine s_al 1 rfl rfl zero55 rfl ?_
                  refine s_wkb 1 [none, none, none, some 3, some 2, some 1, none, none, some 3, some 2, some 1, some 2, some 1, some 2] rfl rfl ?_
                  iterate 2 (refine s_a tab_ok rfl ?_)
                  refine tops_nil ?_
                  refine w_norm [1, 9, 10, 155, 156, 157] rfl rfl ?_
                  refine twp_rseq ?_
                  iterate 3 (refine s_a tab_ok rfl ?_)
                  obtain ⟨r76, hr76, hm⟩ := bind_inv hm
                  refine s_x rfl rfl (rd_callRN rfl rfl (snaps_cons (.d _) (snaps_cons (.d _) snaps_nil)) (ref16_Find_c hr76)) ?_
                  iterate 2 (refine s_a tab_ok rfl ?_)
                  refine tops_nil ?_
                  refine w_norm [1, 155, 156, 157, 167] rfl rfl ?_
                  refine twp_cond _ rfl (fun h77 => ?_) (fun h77 => ?_)
                  · replace hm := iteN_T h77 hm
                    refine twp_rseq ?_
                    refine s_a tab_ok rfl ?_
                    refine tops_nil ?_
                    refine w_norm [2] rfl rfl ?_
                    refine twp_ret ?_
                    refine way_blockRet ?_
                    refine way_thenRet ?_
                    obtain ⟨v78, hm, hz⟩ := inr_inv hm
                    rw [hz73 _ hz] at hm
                    refine way_thenRet ?_
                    refine way_blockRet ?_
                    obtain ⟨v79, hm, hz⟩ := inr_inv hm
                    rw [hz70 _ hz] at hm
                    refine way_thenRet ?_
                    obtain rfl := Option.some.inj hm
                    exact EndsS.one _ rfl (.d _) (.refl _)
                  · replace hm := iteN_F h77 hm
                    refine twp_skip ?_
                    refine way_block ?_
                    refine way_then ?_
                    refine w_norm [1, 155, 156, 157] rfl rfl ?_
                    refine twp_region ?_
                    obtain ⟨g80, hm⟩ := guard_inv hm
                    refine s_x rfl rfl (x_ar rfl rfl rfl rfl g80) ?_
                    refine s_a tab_ok rfl ?_
                    refine tops_nil ?_
                    refine way_then ?_
                    exact ⟨_, [0], (Option.some.inj hm).symm, rfl, k0, rfl⟩
                · replace hm := ite_F h74 hm
                  refine twp_exit ?_
                  refine way_thenExit ?_
                  obtain ⟨v81, hm, hz⟩ := inr_inv hm
                  rw [hz73 _ hz] at hm
                  refine way_thenExit ?_
                  refine way_here ?_
                  refine way_then ?_
                  exact ⟨_, [0], (Option.some.inj hm).symm, rfl, k0, rfl⟩
              · refine w_norm [] rfl rfl ?_
                refine twp_rseq ?_
                refine s_a tab_ok rfl ?_
                refine tops_nil ?_
                refine w_norm [2] rfl rfl ?_
                refine twp_ret ?_
                obtain rfl := Option.some.inj hm
                exact EndsS.one _ rfl (.d _) (.refl _)

theorem ref42_find_c {p0 : (List Possession)} {p1 : Int} {r : Int} (hm : ref42_find p0 p1 = some r) : RetN Try.prog 31 [.sl 4 (p0.map Possession.enc), .int .i64 p1] (.int .i64 r) := by
  refine .unit (ret_bodyS callB31 Try.func31 rfl Try.ntmps31 rfl rfl (fun wX gX => ?_)) rfl
  unfold ref42_find at hm
  refine w_norm [0, 1] rfl rfl ?_
  refine twp_rseq ?_
  refine s_a tab_ok rfl ?_
  refine tops_nil ?_
  refine w_norm [0, 1] rfl rfl ?_
  refine w_joinS hm (fun _ => ([] : Fr)) (fun _ => ([] : List (Nat × Blk))) [] [] rfl (fun z1 hm hz1 => ?_) (fun j hm => ?_)
  · refine twp_rseq ?_
    refine s_a tab_ok rfl ?_
    refine tops_nil ?_
    refine w_norm [0, 1, 5] rfl rfl ?_
    refine twp_block ?_
    refine w_loop hm (fun i3 => ([(5, .d (.int .i64 i3))] : Fr)) (fun i3 => ([] : List (Nat × Blk))) [5] [0, 1] [] rfl k0 rfl rfl rfl rfl rfl (fun i3 z4 hm hz4 => ?_)
    refine w_norm [0, 1, 5] rfl rfl ?_
    refine twp_seq ?_
    refine twp_rseq ?_
    iterate 2 (refine s_a tab_ok rfl ?_)
    refine s_x rfl rfl (x_len tab_ok rfl rfl rfl) ?_
    refine s_a tab_ok rfl ?_
    refine tops_nil ?_
    refine w_norm [0, 1, 5, 9] rfl rfl ?_
    refine twp_cond _ rfl (fun h5 => ?_) (fun h5 => ?_)
    · replace hm := ite_T h5 hm
      refine twp_skip ?_
      refine way_then ?_
      refine w_norm [0, 1, 5] rfl rfl ?_
      refine twp_seq ?_
      refine twp_block ?_
      refine twp_rseq ?_
      iterate 2 (refine s_a tab_ok rfl ?_)
      obtain ⟨e6, he6, hm⟩ := get_inv hm
      refine s_x rfl rfl (x_ix tab_ok rfl rfl rfl rfl he6) ?_
      iterate 4 (refine s_a tab_ok rfl ?_)
      refine tops_nil ?_
      refine w_norm [0, 1, 5, 18] rfl rfl ?_
      refine twp_cond _ rfl (fun h7 => ?_) (fun h7 => ?_)
      · replace hm := ite_T h7 hm
        refine twp_rseq ?_
        iterate 2 (refine s_a tab_ok rfl ?_)
        refine tops_nil ?_
        refine w_norm [4] rfl rfl ?_
        refine twp_ret ?_
        refine way_blockRet ?_
        refine way_thenRet ?_
        obtain ⟨v8, hm, hz⟩ := inr_inv hm
        rw [hz4 _ hz] at hm
        refine way_thenRet ?_
        refine way_blockRet ?_
        obtain ⟨v9, hm, hz⟩ := inr_inv hm
        rw [hz1 _ hz] at hm
        refine way_thenRet ?_
        obtain rfl := Option.some.inj hm
        exact EndsS.one _ rfl (.d _) (.refl _)
      · replace hm := ite_F h7 hm
        refine twp_skip ?_
        refine way_block ?_
        refine way_then ?_
        refine w_norm [0, 1, 5] rfl rfl ?_
        refine twp_region ?_
        refine s_a tab_ok rfl ?_
        obtain ⟨g10, hm⟩ := guard_inv hm
        refine s_x rfl rfl (x_ar rfl rfl rfl rfl g10) ?_
        refine s_a tab_ok rfl ?_
        refine tops_nil ?_
        refine way_then ?_
        exact ⟨_, [], (Option.some.inj hm).symm, rfl, k0, rfl⟩
    · replace hm := ite_F h5 hm
      refine twp_exit ?_
      refine way_thenExit ?_
      obtain ⟨v11, hm, hz⟩ := inr_inv hm
      rw [hz4 _ hz] at hm
      refine way_thenExit ?_
      refine way_here ?_
      refine way_then ?_
      exact ⟨_, [], (Option.some.inj hm).symm, rfl, k0, rfl⟩
  · refine w_norm [] rfl rfl ?_
    refine twp_rseq ?_
    refine s_a tab_ok rfl ?_
    refine tops_nil ?_
    refine w_norm [4] rfl rfl ?_
    refine twp_ret ?_
    obtain rfl := Option.some.inj hm
    exact EndsS.one _ rfl (.d _) (.refl _)

theorem ref21_fitsRoute_c {p0 : RouteState} {p1 : Int} {r : Bool} (hm : ref21_fitsRoute p0 p1 = some r) : RetN Try.prog 90 [p0.enc, .int .i64 p1] (.bool (r)) := by
  refine .unit (ret_bodyS callB90 Try.func90 rfl Try.ntmps90 rfl rfl (fun wX gX => ?_)) rfl
  unfold ref21_fitsRoute at hm
  refine w_norm [0, 1] rfl rfl ?_
  refine twp_rseq ?_
  refine s_bx 0 rfl rfl rfl ?_
  refine s_a tab_ok rfl ?_
  refine tops_nil ?_
  refine w_norm [1, 2] rfl rfl ?_
  refine twp_seq ?_
  refine twp_rseq ?_
  iterate 2 (refine s_a tab_ok rfl ?_)
  refine tops_nil ?_
  refine w_norm [1, 2, 6] rfl rfl ?_
  refine twp_block ?_
  refine w_joinM hm (fun x1 => ([(7, .d (.bool (x1)))] : Fr)) (fun x1 => ([] : List (Nat × Blk))) [7] [1, 2, 6] rfl (fun z2 hm => ?_) (fun x1 hm => ?_)
  · refine twp_rseq ?_
    iterate 2 (refine s_a tab_ok rfl ?_)
    refine tops_nil ?_
    refine w_norm [1, 2, 6, 7] rfl rfl ?_
    refine twp_cond _ rfl (fun h3 => ?_) (fun h3 => ?_)
    · replace hm := ite_T h3 hm
      refine twp_skip ?_
      refine way_then ?_
      exact ⟨_, [0], (Option.some.inj hm).symm, rfl, k0, rfl⟩
    · replace hm := ite_F h3 hm
      refine twp_rseq ?_
      iterate 2 (refine s_a tab_ok rfl ?_)
      refine tops_nil ?_
      refine w_norm [1, 2, 6, 7] rfl rfl ?_
      refine twp_cond _ rfl (fun h4 => ?_) (fun h4 => ?_)
      · replace hm := ite_T h4 hm
        refine twp_skip ?_
        refine way_then ?_
        exact ⟨_, [0], (Option.some.inj hm).symm, rfl, k0, rfl⟩
      · replace hm := ite_F h4 hm
        refine twp_region ?_
        iterate 2 (refine s_a tab_ok rfl ?_)
        refine tops_nil ?_
        refine way_then ?_
        exact ⟨_, [0], (Option.some.inj hm).symm, rfl, k0, rfl⟩
  · refine w_norm [1, 2, 6, 7] rfl rfl ?_
    refine twp_cond _ rfl (fun h5 => ?_) (fun h5 => ?_)
    · replace hm := iteB_T h5 hm
      refine w_cut [(4, .d (.bool (((decide (p0.rel = (0 : Int))) && (decide (p0.timer = (0 : Int)))))))] [4] [] rfl ?_ ?_
      · refine twp_region ?_
        iterate 3 (refine s_a tab_ok rfl ?_)
        refine s_b tab_ok rfl (fun q6 hq6 => ?_)
        cases q6
        · iterate 5 (refine s_a tab_ok rfl ?_)
          refine tops_nil ?_
          refine way_then ?_
          exact ⟨[0], rfl, k0, st_eq (fr_cons (av_bool (by simp [hq6])) rfl) rfl⟩
        · iterate 5 (refine s_a tab_ok rfl ?_)
          refine tops_nil ?_
          refine way_then ?_
          exact ⟨[0], rfl, k0, st_eq (fr_cons (av_bool (by simp [hq6])) rfl) rfl⟩
      · refine w_norm [4] rfl rfl ?_
        refine twp_ret ?_
        refine way_blockRet ?_
        refine way_thenRet ?_
        obtain rfl := Option.some.inj hm
        exact EndsS.one _ rfl (.d _) (.refl _)
    · replace hm := iteB_F h5 hm
      refine twp_rseq ?_
      iterate 2 (refine s_a tab_ok rfl ?_)
      refine tops_nil ?_
      refine w_norm [1, 2, 6, 19] rfl rfl ?_
      refine twp_cond _ rfl (fun h7 => ?_) (fun h7 => ?_)
      · replace hm := ite_T h7 hm
        refine w_joinM hm (fun x8 => ([(4, .d (.bool (x8)))] : Fr)) (fun x8 => ([] : List (Nat × Blk))) [4] [] rfl (fun z9 hm => ?_) (fun x8 hm => ?_)
        · refine twp_region ?_
          iterate 3 (refine s_a tab_ok rfl ?_)
          refine s_b tab_ok rfl (fun q10 hq10 => ?_)
          cases q10
          · replace hm := ite_F hq10 hm
            iterate 28 (refine s_a tab_ok rfl ?_)
            refine tops_nil ?_
            refine way_then ?_
            exact ⟨_, [0], (Option.some.inj hm).symm, rfl, k0, rfl⟩
          · replace hm := ite_T hq10 hm
            iterate 5 (refine s_a tab_ok rfl ?_)
            refine s_b tab_ok rfl (fun q11 hq11 => ?_)
            cases q11
            · replace hm := ite_F hq11 hm
              iterate 22 (refine s_a tab_ok rfl ?_)
              refine tops_nil ?_
              refine way_then ?_
              exact ⟨_, [0], (Option.some.inj hm).symm, rfl, k0, rfl⟩
            · replace hm := ite_T hq11 hm
              iterate 4 (refine s_a tab_ok rfl ?_)
              refine s_b tab_ok rfl (fun q12 hq12 => ?_)
              cases q12
              · replace hm := ite_F hq12 hm
                iterate 17 (refine s_a tab_ok rfl ?_)
                refine tops_nil ?_
                refine way_then ?_
                exact ⟨_, [0], (Option.some.inj hm).symm, rfl, k0, rfl⟩
              · replace hm := ite_T hq12 hm
                iterate 4 (refine s_a tab_ok rfl ?_)
                refine s_b tab_ok rfl (fun q13 hq13 => ?_)
                cases q13
                · replace hm := ite_F hq13 hm
                  iterate 12 (refine s_a tab_ok rfl ?_)
                  refine tops_nil ?_
                  refine way_then ?_
                  exact ⟨_, [0], (Option.some.inj hm).symm, rfl, k0, rfl⟩
                · replace hm := ite_T hq13 hm
                  iterate 3 (refine s_a tab_ok rfl ?_)
                  refine s_b tab_ok rfl (fun q14 hq14 => ?_)
                  cases q14
                  · replace hm := ite_F hq14 hm
                    iterate 3 (refine s_a tab_ok rfl ?_)
                    obtain ⟨g15, hm⟩ := guard_inv hm
                    refine s_x rfl rfl (x_ar rfl rfl rfl rfl g15) ?_
                    iterate 4 (refine s_a tab_ok rfl ?_)
                    refine tops_nil ?_
                    refine way_then ?_
                    exact ⟨_, [0], (Option.some.inj hm).symm, rfl, k0, rfl⟩
                  · replace hm := ite_T hq14 hm
                    iterate 8 (refine s_a tab_ok rfl ?_)
                    refine tops_nil ?_
                    refine way_then ?_
                    exact ⟨_, [0], (Option.some.inj hm).symm, rfl, k0, rfl⟩
        · refine w_norm [4] rfl rfl ?_
          refine twp_ret ?_
          refine way_blockRet ?_
          refine way_thenRet ?_
          obtain rfl := Option.some.inj hm
          exact EndsS.one _ rfl (.d _) (.refl _)
      · replace hm := ite_F h7 hm
        refine twp_rseq ?_
        iterate 2 (refine s_a tab_ok rfl ?_)
        refine tops_nil ?_
        refine w_norm [1, 2, 52] rfl rfl ?_
        refine twp_cond _ rfl (fun h16 => ?_) (fun h16 => ?_)
        · replace hm := ite_T h16 hm
          refine w_cut [(4, .d (.bool (((decide ((0 : Int) ≤ p0.rel)) && ((decide (p0.rel < p1)) && ((decide ((0 : Int) ≤ p0.timer)) && (decide (p0.timer < (12 : Int)))))))))] [4] [] rfl ?_ ?_
          · refine twp_region ?_
            iterate 3 (refine s_a tab_ok rfl ?_)
            refine s_b tab_ok rfl (fun q17 hq17 => ?_)
            cases q17
            · iterate 16 (refine s_a tab_ok rfl ?_)
              refine tops_nil ?_
              refine way_then ?_
              exact ⟨[0], rfl, k0, st_eq (fr_cons (av_bool (by simp [hq17])) rfl) rfl⟩
            · iterate 5 (refine s_a tab_ok rfl ?_)
              refine s_b tab_ok rfl (fun q18 hq18 => ?_)
              cases q18
              · iterate 10 (refine s_a tab_ok rfl ?_)
                refine tops_nil ?_
                refine way_then ?_
                exact ⟨[0], rfl, k0, st_eq (fr_cons (av_bool (by simp [hq17, hq18])) rfl) rfl⟩
              · iterate 4 (refine s_a tab_ok rfl ?_)
                refine s_b tab_ok rfl (fun q19 hq19 => ?_)
                cases q19
                · iterate 5 (refine s_a tab_ok rfl ?_)
                  refine tops_nil ?_
                  refine way_then ?_
                  exact ⟨[0], rfl, k0, st_eq (fr_cons (av_bool (by simp [hq17, hq18, hq19])) rfl) rfl⟩
                · iterate 5 (refine s_a tab_ok rfl ?_)
                  refine tops_nil ?_
                  refine way_then ?_
                  exact ⟨[0], rfl, k0, st_eq (fr_cons (av_bool (by simp [hq17, hq18, hq19])) rfl) rfl⟩
          · refine w_norm [4] rfl rfl ?_
            refine twp_ret ?_
            refine way_blockRet ?_
            refine way_thenRet ?_
            obtain rfl := Option.some.inj hm
            exact EndsS.one _ rfl (.d _) (.refl _)
        · replace hm := ite_F h16 hm
          refine twp_skip ?_
          refine way_block ?_
          refine way_then ?_
          refine w_norm [] rfl rfl ?_
          refine twp_rseq ?_
          refine s_a tab_ok rfl ?_
          refine tops_nil ?_
          refine w_norm [4] rfl rfl ?_
          refine twp_ret ?_
          obtain rfl := Option.some.inj hm
          exact EndsS.one _ rfl (.d _) (.refl _)

theorem ref21_Fits_c {p0 : Table} {p1 : Inter} {r : Bool} (hm : ref21_Fits p0 p1 = some r) : RetN Try.prog 79 [p0.enc, p1.enc] (.bool (r)) := by
  refine .unit (ret_bodyS callB79 Try.func79 rfl Try.ntmps79 rfl rfl (fun wX gX => ?_)) rfl
  unfold ref21_Fits at hm
  refine w_norm [0, 1] rfl rfl ?_
  refine twp_rseq ?_
  refine s_bx 0 rfl rfl rfl ?_
  refine s_bx 1 rfl rfl rfl ?_
  refine s_a tab_ok rfl ?_
  refine tops_nil ?_
  refine w_norm [2, 3] rfl rfl ?_
  refine twp_seq ?_
  refine w_joinM hm (fun x1 => ([(27, .d (.bool (x1)))] : Fr)) (fun x1 => ([] : List (Nat × Blk))) [27] [2, 3] rfl (fun z2 hm => ?_) (fun x1 hm => ?_)
  · refine twp_region ?_
    refine s_a tab_ok rfl ?_
    obtain ⟨r3, hr3, hm⟩ := bind_inv hm
    refine s_x rfl rfl (rd_callRN rfl rfl (snaps_cons (.d _) snaps_nil) (ref16_Check_c hr3)) ?_
    refine s_a tab_ok rfl ?_
    refine s_b tab_ok rfl (fun q4 hq4 => ?_)
    cases q4
    · replace hm := iteN_F hq4 hm
      iterate 2 (refine s_a tab_ok rfl ?_)
      refine s_x rfl rfl (x_len tab_ok rfl rfl rfl) ?_
      iterate 2 (refine s_a tab_ok rfl ?_)
      refine s_x rfl rfl (x_len tab_ok rfl rfl rfl) ?_
      iterate 2 (refine s_a tab_ok rfl ?_)
      refine s_b tab_ok rfl (fun q5 hq5 => ?_)
      cases q5
      · replace hm := iteN_F hq5 hm
        iterate 2 (refine s_a tab_ok rfl ?_)
        refine s_x rfl rfl (x_len tab_ok rfl rfl rfl) ?_
        iterate 2 (refine s_a tab_ok rfl ?_)
        refine s_x rfl rfl (x_len tab_ok rfl rfl rfl) ?_
        iterate 2 (refine s_a tab_ok rfl ?_)
        refine tops_nil ?_
        refine way_then ?_
        exact ⟨_, [0, 1], (Option.some.inj hm).symm, rfl, k0, rfl⟩
      · replace hm := iteN_T hq5 hm
        iterate 8 (refine s_a tab_ok rfl ?_)
        refine tops_nil ?_
        refine way_then ?_
        exact ⟨_, [0, 1], (Option.some.inj hm).symm, rfl, k0, rfl⟩
    · replace hm := iteN_T hq4 hm
      iterate 17 (refine s_a tab_ok rfl ?_)
      refine tops_nil ?_
      refine way_then ?_
      exact ⟨_, [0, 1], (Option.some.inj hm).symm, rfl, k0, rfl⟩
  · refine w_norm [2, 3, 27] rfl rfl ?_
    refine twp_cond _ rfl (fun h6 => ?_) (fun h6 => ?_)
    · replace hm := iteB_T h6 hm
      refine twp_rseq ?_
      refine s_a tab_ok rfl ?_
      refine tops_nil ?_
      refine w_norm [4] rfl rfl ?_
      refine twp_ret ?_
      refine way_thenRet ?_
      obtain rfl := Option.some.inj hm
      exact EndsS.one _ rfl (.d _) (.refl _)
    · replace hm := iteB_F h6 hm
      refine twp_skip ?_
      refine way_then ?_
      refine w_norm [2, 3] rfl rfl ?_
      refine w_joinS hm (fun _ => ([] : Fr)) (fun _ => ([] : List (Nat × Blk))) [] [3] rfl (fun z7 hm hz7 => ?_) (fun j hm => ?_)
      · refine twp_rseq ?_
        refine s_a tab_ok rfl ?_
        refine tops_nil ?_
        refine w_norm [2, 3, 5] rfl rfl ?_
        refine twp_block ?_
        refine w_loop hm (fun x9 => ([(5, .d (.int .i64 x9))] : Fr)) (fun x9 => ([] : List (Nat × Blk))) [5] [2, 3] [0, 1] rfl k0 rfl rfl rfl rfl rfl (fun x9 z10 hm hz10 => ?_)
        refine w_norm [2, 3, 5] rfl rfl ?_
        refine twp_seq ?_
        refine twp_rseq ?_
        iterate 3 (refine s_a tab_ok rfl ?_)
        refine s_x rfl rfl (x_len tab_ok rfl rfl rfl) ?_
        refine s_a tab_ok rfl ?_
        refine tops_nil ?_
        refine w_norm [2, 3, 5, 32] rfl rfl ?_
        refine twp_cond _ rfl (fun h11 => ?_) (fun h11 => ?_)
        · replace hm := ite_T h11 hm
          refine twp_skip ?_
          refine way_then ?_
          refine w_norm [2, 3, 5] rfl rfl ?_
          refine twp_seq ?_
          refine twp_block ?_
          refine twp_dseq follows  ?_
          iterate 3 (refine d_a [0, 1] tab_ok rfl ?_)
          obtain ⟨e12, he12, hm⟩ := get_inv hm
          refine d_x [0, 1] rfl rfl (x_ix tab_ok rfl rfl rfl rfl he12) ?_
          iterate 4 (refine d_a [0, 1] tab_ok rfl ?_)
          obtain ⟨e13, he13, hm⟩ := get_inv hm
          refine d_x [0, 1] rfl rfl (x_ix tab_ok rfl rfl rfl rfl he13) ?_
          iterate 2 (refine d_a [0, 1] tab_ok rfl ?_)
          refine d_x [0, 1] rfl rfl (x_len tab_ok rfl rfl rfl) ?_
          obtain ⟨r14, hr14, hm⟩ := bind_inv hm
          refine d_x [0, 1] rfl rfl (rd_callRN rfl rfl (snaps_cons (.d _) (snaps_cons (.d _) snaps_nil)) (ref21_fitsRoute_c hr14)) ?_
          refine d_a [0, 1] tab_ok rfl ?_
          refine d_tail ?_ (by kernel_rfl)
          refine tops_nil ?_
          refine w_norm [2, 3, 5, 48] rfl rfl ?_
          refine twp_cond _ rfl (fun h15 => ?_) (fun h15 => ?_)
          · replace hm := iteB_T h15 hm
            refine twp_rseq ?_
            refine s_a tab_ok rfl ?_
            refine tops_nil ?_
            refine w_norm [4] rfl rfl ?_
            refine twp_ret ?_
            refine way_blockRet ?_
            refine way_thenRet ?_
            obtain ⟨v16, hm, hz⟩ := inr_inv hm
            rw [hz10 _ hz] at hm
            refine way_thenRet ?_
            refine way_blockRet ?_
            obtain ⟨v17, hm, hz⟩ := inr_inv hm
            rw [hz7 _ hz] at hm
            refine way_thenRet ?_
            obtain rfl := Option.some.inj hm
            exact EndsS.one _ rfl (.d _) (.refl _)
          · replace hm := iteB_F h15 hm
            refine twp_skip ?_
            refine way_block ?_
            refine way_then ?_
            refine w_norm [2, 3, 5] rfl rfl ?_
            refine twp_region ?_
            refine s_a tab_ok rfl ?_
            obtain ⟨g18, hm⟩ := guard_inv hm
            refine s_x rfl rfl (x_ar rfl rfl rfl rfl g18) ?_
            refine s_a tab_ok rfl ?_
            refine tops_nil ?_
            refine way_then ?_
            exact ⟨_, [0, 1], (Option.some.inj hm).symm, rfl, k0, rfl⟩
        · replace hm := ite_F h11 hm
          refine twp_exit ?_
          refine way_thenExit ?_
          obtain ⟨v19, hm, hz⟩ := inr_inv hm
          rw [hz10 _ hz] at hm
          refine way_thenExit ?_
          refine way_here ?_
          refine way_then ?_
          exact ⟨_, [0, 1], (Option.some.inj hm).symm, rfl, k0, rfl⟩
      · refine w_norm [3] rfl rfl ?_
        refine w_joinS hm (fun _ => ([] : Fr)) (fun _ => ([] : List (Nat × Blk))) [] [] rfl (fun z20 hm hz20 => ?_) (fun j hm => ?_)
        · refine twp_rseq ?_
          refine s_a tab_ok rfl ?_
          refine tops_nil ?_
          refine w_norm [3, 6] rfl rfl ?_
          refine twp_block ?_
          refine w_loop hm (fun x22 => ([(6, .d (.int .i64 x22))] : Fr)) (fun x22 => ([] : List (Nat × Blk))) [6] [3] [0, 1] rfl k0 rfl rfl rfl rfl rfl (fun x22 z23 hm hz23 => ?_)
          refine w_norm [3, 6] rfl rfl ?_
          refine twp_seq ?_
          refine twp_rseq ?_
          iterate 3 (refine s_a tab_ok rfl ?_)
          refine s_x rfl rfl (x_len tab_ok rfl rfl rfl) ?_
          refine s_a tab_ok rfl ?_
          refine tops_nil ?_
          refine w_norm [3, 6, 53] rfl rfl ?_
          refine twp_cond _ rfl (fun h24 => ?_) (fun h24 => ?_)
          · replace hm := ite_T h24 hm
            refine twp_skip ?_
            refine way_then ?_
            refine w_norm [3, 6] rfl rfl ?_
            refine twp_seq ?_
            refine twp_block ?_
            refine w_joinM hm (fun x25 => ([(69, .d (.bool (x25)))] : Fr)) (fun x25 => ([] : List (Nat × Blk))) [69] [3, 6] rfl (fun z26 hm => ?_) (fun x25 hm => ?_)
            · refine twp_region ?_
              iterate 3 (refine s_a tab_ok rfl ?_)
              obtain ⟨e27, he27, hm⟩ := get_inv hm
              refine s_x rfl rfl (x_ix tab_ok rfl rfl rfl rfl he27) ?_
              iterate 2 (refine s_a tab_ok rfl ?_)
              refine s_b tab_ok rfl (fun q28 hq28 => ?_)
              cases q28
              · replace hm := iteN_F hq28 hm
                iterate 7 (refine s_a tab_ok rfl ?_)
                refine tops_nil ?_
                refine way_then ?_
                exact ⟨_, [0, 1], (Option.some.inj hm).symm, rfl, k0, rfl⟩
              · replace hm := iteN_T hq28 hm
                iterate 3 (refine s_a tab_ok rfl ?_)
                obtain ⟨e29, he29, hm⟩ := get_inv hm
                refine s_x rfl rfl (x_ix tab_ok rfl rfl rfl rfl he29) ?_
                iterate 3 (refine s_a tab_ok rfl ?_)
                refine tops_nil ?_
                refine way_then ?_
                exact ⟨_, [0, 1], (Option.some.inj hm).symm, rfl, k0, rfl⟩
            · refine w_norm [3, 6, 69] rfl rfl ?_
              refine twp_cond _ rfl (fun h30 => ?_) (fun h30 => ?_)
              · replace hm := iteB_T h30 hm
                refine twp_rseq ?_
                refine s_a tab_ok rfl ?_
                refine tops_nil ?_
                refine w_norm [4] rfl rfl ?_
                refine twp_ret ?_
                refine way_blockRet ?_
                refine way_thenRet ?_
                obtain ⟨v31, hm, hz⟩ := inr_inv hm
                rw [hz23 _ hz] at hm
                refine way_thenRet ?_
                refine way_blockRet ?_
                obtain ⟨v32, hm, hz⟩ := inr_inv hm
                rw [hz20 _ hz] at hm
                refine way_thenRet ?_
                obtain rfl := Option.some.inj hm
                exact EndsS.one _ rfl (.d _) (.refl _)
              · replace hm := iteB_F h30 hm
                refine twp_skip ?_
                refine way_block ?_
                refine way_then ?_
                refine w_norm [3, 6] rfl rfl ?_
                refine twp_region ?_
                refine s_a tab_ok rfl ?_
                obtain ⟨g33, hm⟩ := guard_inv hm
                refine s_x rfl rfl (x_ar rfl rfl rfl rfl g33) ?_
                refine s_a tab_ok rfl ?_
                refine tops_nil ?_
                refine way_then ?_
                exact ⟨_, [0, 1], (Option.some.inj hm).symm, rfl, k0, rfl⟩
          · replace hm := ite_F h24 hm
            refine twp_exit ?_
            refine way_thenExit ?_
            obtain ⟨v34, hm, hz⟩ := inr_inv hm
            rw [hz23 _ hz] at hm
            refine way_thenExit ?_
            refine way_here ?_
            refine way_then ?_
            exact ⟨_, [0, 1], (Option.some.inj hm).symm, rfl, k0, rfl⟩
        · refine w_norm [] rfl rfl ?_
          refine twp_rseq ?_
          refine s_a tab_ok rfl ?_
          refine tops_nil ?_
          refine w_norm [4] rfl rfl ?_
          refine twp_ret ?_
          obtain rfl := Option.some.inj hm
          exact EndsS.one _ rfl (.d _) (.refl _)

theorem ref21_locked_c {p0 : Table} {p1 : Inter} {p2 : Int} {r : Bool} (hm : ref21_locked p0 p1 p2 = some r) : RetN Try.prog 71 [p0.enc, p1.enc, .int .i64 p2] (.bool (r)) := by
  refine .unit (ret_bodyS callB71 Try.func71 rfl Try.ntmps71 rfl rfl (fun wX gX => ?_)) rfl
  unfold ref21_locked at hm
  refine w_norm [0, 1, 2] rfl rfl ?_
  refine twp_rseq ?_
  refine s_bx 0 rfl rfl rfl ?_
  refine s_bx 1 rfl rfl rfl ?_
  refine s_a tab_ok rfl ?_
  refine tops_nil ?_
  refine w_norm [2, 3, 4] rfl rfl ?_
  refine w_joinM hm (fun x1 => ([(6, .d (.bool (x1)))] : Fr)) (fun x1 => ([] : List (Nat × Blk))) [6] [] rfl (fun z2 hm => ?_) (fun x1 hm => ?_)
  · refine twp_region ?_
    iterate 2 (refine s_a tab_ok rfl ?_)
    refine s_b tab_ok rfl (fun q3 hq3 => ?_)
    cases q3
    · replace hm := ite_F hq3 hm
      iterate 21 (refine s_a tab_ok rfl ?_)
      refine tops_nil ?_
      refine way_then ?_
      exact ⟨_, [0, 1], (Option.some.inj hm).symm, rfl, k0, rfl⟩
    · replace hm := ite_T hq3 hm
      iterate 3 (refine s_a tab_ok rfl ?_)
      refine s_x rfl rfl (x_len tab_ok rfl rfl rfl) ?_
      iterate 2 (refine s_a tab_ok rfl ?_)
      refine s_b tab_ok rfl (fun q4 hq4 => ?_)
      cases q4
      · replace hm := ite_F hq4 hm
        iterate 14 (refine s_a tab_ok rfl ?_)
        refine tops_nil ?_
        refine way_then ?_
        exact ⟨_, [0, 1], (Option.some.inj hm).symm, rfl, k0, rfl⟩
      · replace hm := ite_T hq4 hm
        iterate 2 (refine s_a tab_ok rfl ?_)
        obtain ⟨r5, hr5, hm⟩ := bind_inv hm
        refine s_x rfl rfl (rd_callRN rfl rfl (snaps_cons (.d _) (snaps_cons (.d _) snaps_nil)) (ref21_Fits_c hr5)) ?_
        refine s_a tab_ok rfl ?_
        refine s_b tab_ok rfl (fun q6 hq6 => ?_)
        cases q6
        · replace hm := iteB_F hq6 hm
          iterate 9 (refine s_a tab_ok rfl ?_)
          refine tops_nil ?_
          refine way_then ?_
          exact ⟨_, [0, 1], (Option.some.inj hm).symm, rfl, k0, rfl⟩
        · replace hm := iteB_T hq6 hm
          iterate 3 (refine s_a tab_ok rfl ?_)
          obtain ⟨e7, he7, hm⟩ := get_inv hm
          refine s_x rfl rfl (x_ix tab_ok rfl rfl rfl rfl he7) ?_
          iterate 5 (refine s_a tab_ok rfl ?_)
          refine tops_nil ?_
          refine way_then ?_
          exact ⟨_, [0, 1], (Option.some.inj hm).symm, rfl, k0, rfl⟩
  · refine w_norm [6] rfl rfl ?_
    refine twp_ret ?_
    obtain rfl := Option.some.inj hm
    exact EndsS.one _ rfl (.d _) (.refl _)

theorem ref21_path_c {p0 : Table} {p1 : Inter} {p2 : Int} {r : (List Int)} (hm : ref21_path p0 p1 p2 = some r) : RetD Try.prog 72 [p0.enc, p1.enc, .int .i64 p2] (.sl 1 (r.map (D.int .i64))) := by
  refine .of (mv := fun _ => false) (ret_bodyS callB72 Try.func72 rfl Try.ntmps72 rfl rfl (fun wX gX => ?_))
  unfold ref21_path at hm
  refine w_norm [0, 1, 2] rfl rfl ?_
  refine twp_rseq ?_
  refine s_bx 0 rfl rfl rfl ?_
  refine s_bx 1 rfl rfl rfl ?_
  refine s_a tab_ok rfl ?_
  refine tops_nil ?_
  refine w_norm [2, 3, 4] rfl rfl ?_
  refine twp_seq ?_
  refine twp_rseq ?_
  iterate 3 (refine s_a tab_ok rfl ?_)
  obtain ⟨e1, he1, hm⟩ := get_inv hm
  refine s_x rfl rfl (x_ix tab_ok rfl rfl rfl rfl he1) ?_
  iterate 3 (refine s_a tab_ok rfl ?_)
  refine tops_nil ?_
  refine w_norm [2, 3, 4, 13] rfl rfl ?_
  refine twp_cond _ rfl (fun h2 => ?_) (fun h2 => ?_)
  · replace hm := ite_T h2 hm
    refine twp_rseq ?_
    refine s_a tab_ok rfl ?_
    refine tops_nil ?_
    refine c_wk 6 [some 1] rfl ?_
    refine w_norm [6] rfl rfl ?_
    refine twp_ret ?_
    refine way_thenRet ?_
    obtain rfl := Option.some.inj hm
    exact EndsS.one _ rfl (.d _) (.refl _)
  · replace hm := ite_F h2 hm
    refine twp_skip ?_
    refine way_then ?_
    refine w_norm [2, 3, 4] rfl rfl ?_
    refine twp_hole ?_
    refine twp_dseq follows  ?_
    refine d_wr [2] _ (.msl 2 1 0 (([] : List Int)).length) rfl (onE_A rfl) rfl (w_litD [] rfl rfl (tab_ok.sel rfl) zero3 rfl rfl rfl rfl rfl) ?_
    refine d_a [] tab_ok rfl ?_
    refine d_a [0] tab_ok rfl ?_
    refine d_a [] tab_ok rfl ?_
    obtain ⟨e3, he3, hm⟩ := get_inv hm
    refine d_x [] rfl rfl (x_ix tab_ok rfl rfl rfl rfl he3) ?_
    iterate 3 (refine d_a [] tab_ok rfl ?_)
    refine d_a [1] tab_ok rfl ?_
    refine d_a [] tab_ok rfl ?_
    obtain ⟨e4, he4, hm⟩ := get_inv hm
    refine d_x [] rfl rfl (x_ix tab_ok rfl rfl rfl rfl he4) ?_
    iterate 2 (refine d_a [] tab_ok rfl ?_)
    obtain ⟨g5, hm⟩ := guard_inv hm
    refine d_x [] rfl rfl (x_cut tab_ok rfl rfl rfl rfl rfl g5) ?_
    refine d_tail ?_ (by kernel_rfl)
    obtain ⟨g6, hm⟩ := guard_inv hm
    refine s_app (f := (D.int .i64)) (sub e3.sections e4.rel (e3.sections.length : Int)) tab_ok rfl rfl zero3 rfl rfl rfl rfl rfl (fun h => absurd h (Nat.not_lt_zero _)) rfl src_d g6 rfl rfl ?_
    refine s_a tab_ok rfl ?_
    refine tops_nil ?_
    refine w_norm [6] rfl rfl ?_
    refine twp_ret ?_
    obtain rfl := Option.some.inj hm
    exact EndsS.one _ rfl (snap_map rfl) (.refl _)

theorem ref21_Path_c {p0 : Table} {p1 : Inter} {p2 : Int} {r : (List Int)} (hm : ref21_Path p0 p1 p2 = some r) : RetD Try.prog 55 [p0.enc, p1.enc, .int .i64 p2] (.sl 1 (r.map (D.int .i64))) := by
  refine .of (mv := fun _ => false) (ret_bodyS callB55 Try.func55 rfl Try.ntmps55 rfl rfl (fun wX gX => ?_))
  unfold ref21_Path at hm
  refine w_norm [0, 1, 2] rfl rfl ?_
  refine twp_rseq ?_
  refine s_bx 0 rfl rfl rfl ?_
  refine s_bx 1 rfl rfl rfl ?_
  refine s_a tab_ok rfl ?_
  refine tops_nil ?_
  refine w_norm [2, 3, 4] rfl rfl ?_
  refine twp_seq ?_
  refine twp_rseq ?_
  iterate 3 (refine s_a tab_ok rfl ?_)
  obtain ⟨r1, hr1, hm⟩ := bind_inv hm
  refine s_x rfl rfl (rd_callRN rfl rfl (snaps_cons (.d _) (snaps_cons (.d _) (snaps_cons (.d _) snaps_nil))) (ref21_locked_c hr1)) ?_
  refine s_a tab_ok rfl ?_
  refine tops_nil ?_
  refine w_norm [2, 3, 4, 11] rfl rfl ?_
  refine twp_cond _ rfl (fun h2 => ?_) (fun h2 => ?_)
  · replace hm := iteB_T h2 hm
    refine twp_rseq ?_
    refine s_a tab_ok rfl ?_
    refine tops_nil ?_
    refine c_wk 6 [some 1] rfl ?_
    refine w_norm [6] rfl rfl ?_
    refine twp_ret ?_
    refine way_thenRet ?_
    obtain rfl := Option.some.inj hm
    exact EndsS.one _ rfl (.d _) (.refl _)
  · replace hm := iteB_F h2 hm
    refine twp_skip ?_
    refine way_then ?_
    refine w_norm [2, 3, 4] rfl rfl ?_
    refine twp_rseq ?_
    iterate 3 (refine s_a tab_ok rfl ?_)
    obtain ⟨r3, hr3, hm⟩ := bind_inv hm
    refine s_x rfl rfl (rd_callRD rfl rfl rfl (ref21_path_c hr3)) ?_
    refine s_a tab_ok rfl ?_
    refine tops_nil ?_
    refine w_norm [6] rfl rfl ?_
    refine twp_ret ?_
    obtain rfl := Option.some.inj hm
    exact EndsS.one _ rfl (.d _) (.refl _)

end Go.Proofs.Ythkgkolgdkcngaa
