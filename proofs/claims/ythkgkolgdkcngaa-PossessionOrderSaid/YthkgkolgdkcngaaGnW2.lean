/- The functions return what their models yield. No condition. -/
import Derived.Test.YthkgkolgdkcngaaGnU
import Derived.Test.YthkgkolgdkcngaaGnM
import Derived.Test.YthkgkolgdkcngaaGnW1
set_option maxHeartbeats 400000
set_option linter.unusedSimpArgs false
set_option linter.unusedVariables false
set_option maxRecDepth 20000
namespace Go.Proofs.Ythkgkolgdkcngaa
open Go Go.TL

theorem possession_first_c {p0 : (List Possession)} {r : List (Int × Int)} (hm : possession_first p0 = some r) : Ret Try.prog 26 [] (fun _ => false) ([.sl 4 (p0.map Possession.enc)].map .d) (.mmap 0) [.map 3 3 (pairMap (D.int .i64) (D.int .i64) r)] := by
  refine ret_body callB26 Try.func26 rfl Try.ntmps26 rfl rfl (fun wX gX => ?_)
  unfold possession_first at hm
  refine w_norm [0] rfl rfl ?_
  refine twp_rseq ?_
  refine s_a tab_ok rfl ?_
  refine tops_nil ?_
  refine w_norm [0] rfl rfl ?_
  refine twp_rseq ?_
  refine s_makeMap 3 3 rfl ?_
  refine s_eq 8 (.mmap 0) rfl rfl ?_
  refine s_a tab_ok rfl ?_
  refine tops_nil ?_
  refine w_norm [0, 3] rfl rfl ?_
  refine w_joinM hm (fun m1 => ([] : Fr)) (fun m1 => ([(0, .map 3 3 (pairMap (D.int .i64) (D.int .i64) m1))] : List (Nat × Blk))) [] [3] rfl (fun z2 hm => ?_) (fun m1 hm => ?_)
  · refine twp_rseq ?_
    refine s_a tab_ok rfl ?_
    refine s_x rfl rfl (x_len tab_ok rfl rfl rfl) ?_
    refine s_a tab_ok rfl ?_
    refine tops_nil ?_
    refine w_norm [3, 9, 10, 11] rfl rfl ?_
    refine twp_block ?_
    refine w_loop hm (fun (x6, b7) => ([(11, .d (.int .i64 x6))] : Fr)) (fun (x6, b7) => ([(0, .map 3 3 (pairMap (D.int .i64) (D.int .i64) b7))] : List (Nat × Blk))) [11] [3, 9, 10] [0] rfl k0 rfl rfl rfl rfl rfl (fun s z8 hm hz8 => ?_)
    obtain ⟨x6, b7⟩ := s
    refine w_norm [3, 9, 10, 11] rfl rfl ?_
    refine twp_rseq ?_
    refine s_a tab_ok rfl ?_
    refine tops_nil ?_
    refine w_norm [3, 9, 10, 11, 12] rfl rfl ?_
    refine twp_seq ?_
    refine twp_cond _ rfl (fun h9 => ?_) (fun h9 => ?_)
    · replace hm := ite_T h9 hm
      refine twp_skip ?_
      refine way_then ?_
      refine w_norm [3, 9, 10, 11] rfl rfl ?_
      refine twp_seq ?_
      refine twp_block ?_
      refine twp_rseq ?_
      refine s_a tab_ok rfl ?_
      obtain ⟨e10, he10, hm⟩ := get_inv hm
      refine s_x rfl rfl (x_ix tab_ok rfl rfl rfl rfl he10) ?_
      refine s_a tab_ok rfl ?_
      refine s_al 1 rfl rfl zero31 rfl ?_
      iterate 2 (refine s_a tab_ok rfl ?_)
      refine tops_nil ?_
      refine w_norm [3, 4, 5, 9, 10, 11] rfl rfl ?_
      refine twp_rseq ?_
      iterate 3 (refine s_a tab_ok rfl ?_)
      obtain ⟨g11, hm⟩ := guard_inv hm
      refine s_x rfl rfl (x_look (keyF_int .i64) (D.int .i64) _ _ (0 : Int) rfl mty60 zero3 rfl rfl rfl rfl g11) ?_
      iterate 5 (refine s_a tab_ok rfl ?_)
      refine tops_nil ?_
      refine w_norm [3, 4, 5, 7, 9, 10, 11] rfl rfl ?_
      refine twp_rseq ?_
      iterate 2 (refine s_a tab_ok rfl ?_)
      refine tops_nil ?_
      refine w_norm [3, 4, 5, 9, 10, 11, 24] rfl rfl ?_
      refine twp_cond _ rfl (fun h12 => ?_) (fun h12 => ?_)
      · replace hm := iteB_T h12 hm
        refine twp_region ?_
        iterate 4 (refine s_a tab_ok rfl ?_)
        obtain ⟨g13, hm⟩ := guard_inv hm
        refine s_putE (keyF_int .i64) (D.int .i64) mty60 rfl rfl rfl rfl g13 ?_
        refine tops_nil ?_
        refine way_block ?_
        refine way_then ?_
        refine w_norm [3, 9, 10, 11] rfl rfl ?_
        refine twp_region ?_
        obtain ⟨g14, hm⟩ := guard_inv hm
        refine s_x rfl rfl (x_ar rfl rfl rfl rfl g14) ?_
        refine s_a tab_ok rfl ?_
        refine tops_nil ?_
        refine way_then ?_
        exact ⟨_, [0], (Option.some.inj hm).symm, rfl, k0, rfl⟩
      · replace hm := iteB_F h12 hm
        refine twp_skip ?_
        refine way_block ?_
        refine way_then ?_
        refine w_norm [3, 9, 10, 11] rfl rfl ?_
        refine twp_region ?_
        obtain ⟨g15, hm⟩ := guard_inv hm
        refine s_x rfl rfl (x_ar rfl rfl rfl rfl g15) ?_
        refine s_a tab_ok rfl ?_
        refine tops_nil ?_
        refine way_then ?_
        exact ⟨_, [0], (Option.some.inj hm).symm, rfl, k0, rfl⟩
    · replace hm := ite_F h9 hm
      refine twp_exit ?_
      refine way_thenExit ?_
      obtain ⟨v16, hm, hz⟩ := inr_inv hm
      rw [hz8 _ hz] at hm
      refine way_thenExit ?_
      refine way_here ?_
      refine way_then ?_
      exact ⟨_, [0], (Option.some.inj hm).symm, rfl, k0, rfl⟩
  · refine w_norm [3] rfl rfl ?_
    refine twp_rseq ?_
    iterate 2 (refine s_a tab_ok rfl ?_)
    refine tops_nil ?_
    refine w_norm [2] rfl rfl ?_
    refine twp_ret ?_
    obtain rfl := Option.some.inj hm
    exact ⟨_, [0], res rfl, by decide, k0, rfl, rfl⟩

theorem locks_routeFits_c {p0 : RouteState} {p1 : Int} {r : Bool} (hm : locks_routeFits p0 p1 = some r) : RetN Try.prog 57 [p0.enc, .int .i64 p1] (.bool (r)) := by
  refine .unit (ret_bodyS callB57 Try.func57 rfl Try.ntmps57 rfl rfl (fun wX gX => ?_)) rfl
  unfold locks_routeFits at hm
  refine w_norm [0, 1] rfl rfl ?_
  refine twp_rseq ?_
  refine s_bx 0 rfl rfl rfl ?_
  refine s_a tab_ok rfl ?_
  refine tops_nil ?_
  refine w_norm [1, 2] rfl rfl ?_
  refine twp_seq ?_
  refine twp_rseq ?_
  iterate 2 (refine s_a tab_ok rfl ?_)
  refine tops_nil ?_
  refine w_norm [1, 2, 6] rfl rfl ?_
  refine twp_block ?_
  refine w_joinM hm (fun x1 => ([(7, .d (.bool (x1)))] : Fr)) (fun x1 => ([] : List (Nat × Blk))) [7] [1, 2, 6] rfl (fun z2 hm => ?_) (fun x1 hm => ?_)
  · refine twp_rseq ?_
    iterate 2 (refine s_a tab_ok rfl ?_)
    refine tops_nil ?_
    refine w_norm [1, 2, 6, 7] rfl rfl ?_
    refine twp_cond _ rfl (fun h3 => ?_) (fun h3 => ?_)
    · replace hm := ite_T h3 hm
      refine twp_skip ?_
      refine way_then ?_
      exact ⟨_, [0], (Option.some.inj hm).symm, rfl, k0, rfl⟩
    · replace hm := ite_F h3 hm
      refine twp_rseq ?_
      iterate 2 (refine s_a tab_ok rfl ?_)
      refine tops_nil ?_
      refine w_norm [1, 2, 6, 7] rfl rfl ?_
      refine twp_cond _ rfl (fun h4 => ?_) (fun h4 => ?_)
      · replace hm := ite_T h4 hm
        refine twp_skip ?_
        refine way_then ?_
        exact ⟨_, [0], (Option.some.inj hm).symm, rfl, k0, rfl⟩
      · replace hm := ite_F h4 hm
        refine twp_region ?_
        iterate 2 (refine s_a tab_ok rfl ?_)
        refine tops_nil ?_
        refine way_then ?_
        exact ⟨_, [0], (Option.some.inj hm).symm, rfl, k0, rfl⟩
  · refine w_norm [1, 2, 6, 7] rfl rfl ?_
    refine twp_cond _ rfl (fun h5 => ?_) (fun h5 => ?_)
    · replace hm := iteB_T h5 hm
      refine w_cut [(4, .d (.bool (((decide (p0.rel = (0 : Int))) && (decide (p0.timer = (0 : Int)))))))] [4] [] rfl ?_ ?_
      · refine twp_region ?_
        iterate 3 (refine s_a tab_ok rfl ?_)
        refine s_b tab_ok rfl (fun q6 hq6 => ?_)
        cases q6
        · iterate 5 (refine s_a tab_ok rfl ?_)
          refine tops_nil ?_
          refine way_then ?_
          exact ⟨[0], rfl, k0, st_eq (fr_cons (av_bool (by simp [hq6])) rfl) rfl⟩
        · iterate 5 (refine s_a tab_ok rfl ?_)
          refine tops_nil ?_
          refine way_then ?_
          exact ⟨[0], rfl, k0, st_eq (fr_cons (av_bool (by simp [hq6])) rfl) rfl⟩
      · refine w_norm [4] rfl rfl ?_
        refine twp_ret ?_
        refine way_blockRet ?_
        refine way_thenRet ?_
        obtain rfl := Option.some.inj hm
        exact EndsS.one _ rfl (.d _) (.refl _)
    · replace hm := iteB_F h5 hm
      refine twp_rseq ?_
      iterate 2 (refine s_a tab_ok rfl ?_)
      refine tops_nil ?_
      refine w_norm [1, 2, 6, 19] rfl rfl ?_
      refine twp_cond _ rfl (fun h7 => ?_) (fun h7 => ?_)
      · replace hm := ite_T h7 hm
        refine twp_seq ?_
        refine w_cut [(29, .d (.bool (((decide (p0.rel < (0 : Int))) || (decide (p1 ≤ p0.rel))))))] [29] [1, 2] rfl ?_ ?_
        · refine twp_region ?_
          iterate 3 (refine s_a tab_ok rfl ?_)
          refine s_b tab_ok rfl (fun q8 hq8 => ?_)
          cases q8
          · iterate 5 (refine s_a tab_ok rfl ?_)
            refine tops_nil ?_
            refine way_then ?_
            exact ⟨[0], rfl, k0, st_eq (fr_cons (av_bool (by simp [hq8])) rfl) rfl⟩
          · iterate 5 (refine s_a tab_ok rfl ?_)
            refine tops_nil ?_
            refine way_then ?_
            exact ⟨[0], rfl, k0, st_eq (fr_cons (av_bool (by simp [hq8])) rfl) rfl⟩
        · refine w_norm [1, 2, 29] rfl rfl ?_
          refine twp_cond _ rfl (fun h9 => ?_) (fun h9 => ?_)
          · replace hm := iteB_T h9 hm
            refine twp_rseq ?_
            refine s_a tab_ok rfl ?_
            refine tops_nil ?_
            refine w_norm [4] rfl rfl ?_
            refine twp_ret ?_
            refine way_thenRet ?_
            refine way_blockRet ?_
            refine way_thenRet ?_
            obtain rfl := Option.some.inj hm
            exact EndsS.one _ rfl (.d _) (.refl _)
          · replace hm := iteB_F h9 hm
            refine twp_skip ?_
            refine way_then ?_
            refine w_norm [1, 2] rfl rfl ?_
            refine w_joinM hm (fun x10 => ([(4, .d (.bool (x10)))] : Fr)) (fun x10 => ([] : List (Nat × Blk))) [4] [] rfl (fun z11 hm => ?_) (fun x10 hm => ?_)
            · refine twp_region ?_
              iterate 3 (refine s_a tab_ok rfl ?_)
              refine s_b tab_ok rfl (fun q12 hq12 => ?_)
              cases q12
              · replace hm := ite_F hq12 hm
                iterate 3 (refine s_a tab_ok rfl ?_)
                obtain ⟨g13, hm⟩ := guard_inv hm
                refine s_x rfl rfl (x_ar rfl rfl rfl rfl g13) ?_
                refine s_a tab_ok rfl ?_
                refine s_b tab_ok rfl (fun q14 hq14 => ?_)
                cases q14
                · replace hm := ite_F hq14 hm
                  iterate 11 (refine s_a tab_ok rfl ?_)
                  refine tops_nil ?_
                  refine way_then ?_
                  exact ⟨_, [0], (Option.some.inj hm).symm, rfl, k0, rfl⟩
                · replace hm := ite_T hq14 hm
                  iterate 4 (refine s_a tab_ok rfl ?_)
                  refine s_b tab_ok rfl (fun q15 hq15 => ?_)
                  cases q15
                  · replace hm := ite_F hq15 hm
                    iterate 6 (refine s_a tab_ok rfl ?_)
                    refine tops_nil ?_
                    refine way_then ?_
                    exact ⟨_, [0], (Option.some.inj hm).symm, rfl, k0, rfl⟩
                  · replace hm := ite_T hq15 hm
                    iterate 6 (refine s_a tab_ok rfl ?_)
                    refine tops_nil ?_
                    refine way_then ?_
                    exact ⟨_, [0], (Option.some.inj hm).symm, rfl, k0, rfl⟩
              · replace hm := ite_T hq12 hm
                iterate 17 (refine s_a tab_ok rfl ?_)
                refine tops_nil ?_
                refine way_then ?_
                exact ⟨_, [0], (Option.some.inj hm).symm, rfl, k0, rfl⟩
            · refine w_norm [4] rfl rfl ?_
              refine twp_ret ?_
              refine way_blockRet ?_
              refine way_thenRet ?_
              obtain rfl := Option.some.inj hm
              exact EndsS.one _ rfl (.d _) (.refl _)
      · replace hm := ite_F h7 hm
        refine twp_rseq ?_
        iterate 2 (refine s_a tab_ok rfl ?_)
        refine tops_nil ?_
        refine w_norm [1, 2, 50] rfl rfl ?_
        refine twp_cond _ rfl (fun h16 => ?_) (fun h16 => ?_)
        · replace hm := ite_T h16 hm
          refine w_cut [(4, .d (.bool (((decide ((0 : Int) ≤ p0.rel)) && ((decide (p0.rel < p1)) && ((decide ((0 : Int) ≤ p0.timer)) && (decide (p0.timer < (12 : Int)))))))))] [4] [] rfl ?_ ?_
          · refine twp_region ?_
            iterate 3 (refine s_a tab_ok rfl ?_)
            refine s_b tab_ok rfl (fun q17 hq17 => ?_)
            cases q17
            · iterate 16 (refine s_a tab_ok rfl ?_)
              refine tops_nil ?_
              refine way_then ?_
              exact ⟨[0], rfl, k0, st_eq (fr_cons (av_bool (by simp [hq17])) rfl) rfl⟩
            · iterate 5 (refine s_a tab_ok rfl ?_)
              refine s_b tab_ok rfl (fun q18 hq18 => ?_)
              cases q18
              · iterate 10 (refine s_a tab_ok rfl ?_)
                refine tops_nil ?_
                refine way_then ?_
                exact ⟨[0], rfl, k0, st_eq (fr_cons (av_bool (by simp [hq17, hq18])) rfl) rfl⟩
              · iterate 4 (refine s_a tab_ok rfl ?_)
                refine s_b tab_ok rfl (fun q19 hq19 => ?_)
                cases q19
                · iterate 5 (refine s_a tab_ok rfl ?_)
                  refine tops_nil ?_
                  refine way_then ?_
                  exact ⟨[0], rfl, k0, st_eq (fr_cons (av_bool (by simp [hq17, hq18, hq19])) rfl) rfl⟩
                · iterate 5 (refine s_a tab_ok rfl ?_)
                  refine tops_nil ?_
                  refine way_then ?_
                  exact ⟨[0], rfl, k0, st_eq (fr_cons (av_bool (by simp [hq17, hq18, hq19])) rfl) rfl⟩
          · refine w_norm [4] rfl rfl ?_
            refine twp_ret ?_
            refine way_blockRet ?_
            refine way_thenRet ?_
            obtain rfl := Option.some.inj hm
            exact EndsS.one _ rfl (.d _) (.refl _)
        · replace hm := ite_F h16 hm
          refine twp_skip ?_
          refine way_block ?_
          refine way_then ?_
          refine w_norm [] rfl rfl ?_
          refine twp_rseq ?_
          refine s_a tab_ok rfl ?_
          refine tops_nil ?_
          refine w_norm [4] rfl rfl ?_
          refine twp_ret ?_
          obtain rfl := Option.some.inj hm
          exact EndsS.one _ rfl (.d _) (.refl _)

theorem locks_fits_c {p0 : Table} {p1 : Inter} {r : Bool} (hm : locks_fits p0 p1 = some r) : RetN Try.prog 33 [p0.enc, p1.enc] (.bool (r)) := by
  refine .unit (ret_bodyS callB33 Try.func33 rfl Try.ntmps33 rfl rfl (fun wX gX => ?_)) rfl
  unfold locks_fits at hm
  refine w_norm [0, 1] rfl rfl ?_
  refine twp_rseq ?_
  refine s_bx 0 rfl rfl rfl ?_
  refine s_bx 1 rfl rfl rfl ?_
  refine s_a tab_ok rfl ?_
  refine tops_nil ?_
  refine w_norm [2, 3] rfl rfl ?_
  refine twp_seq ?_
  refine w_joinM hm (fun x1 => ([(29, .d (.bool (x1)))] : Fr)) (fun x1 => ([] : List (Nat × Blk))) [29] [2, 3] rfl (fun z2 hm => ?_) (fun x1 hm => ?_)
  · refine twp_region ?_
    refine s_a tab_ok rfl ?_
    obtain ⟨r3, hr3, hm⟩ := bind_inv hm
    refine s_x rfl rfl (rd_callRN rfl rfl (snaps_cons (.d _) snaps_nil) (table_Check_c hr3)) ?_
    refine s_a tab_ok rfl ?_
    refine s_b tab_ok rfl (fun q4 hq4 => ?_)
    cases q4
    · replace hm := iteN_F hq4 hm
      iterate 2 (refine s_a tab_ok rfl ?_)
      refine s_x rfl rfl (x_len tab_ok rfl rfl rfl) ?_
      iterate 2 (refine s_a tab_ok rfl ?_)
      refine s_x rfl rfl (x_len tab_ok rfl rfl rfl) ?_
      iterate 2 (refine s_a tab_ok rfl ?_)
      refine s_b tab_ok rfl (fun q5 hq5 => ?_)
      cases q5
      · replace hm := iteN_F hq5 hm
        iterate 2 (refine s_a tab_ok rfl ?_)
        refine s_x rfl rfl (x_len tab_ok rfl rfl rfl) ?_
        iterate 2 (refine s_a tab_ok rfl ?_)
        refine s_x rfl rfl (x_len tab_ok rfl rfl rfl) ?_
        iterate 2 (refine s_a tab_ok rfl ?_)
        refine tops_nil ?_
        refine way_then ?_
        exact ⟨_, [0, 1], (Option.some.inj hm).symm, rfl, k0, rfl⟩
      · replace hm := iteN_T hq5 hm
        iterate 8 (refine s_a tab_ok rfl ?_)
        refine tops_nil ?_
        refine way_then ?_
        exact ⟨_, [0, 1], (Option.some.inj hm).symm, rfl, k0, rfl⟩
    · replace hm := iteN_T hq4 hm
      iterate 17 (refine s_a tab_ok rfl ?_)
      refine tops_nil ?_
      refine way_then ?_
      exact ⟨_, [0, 1], (Option.some.inj hm).symm, rfl, k0, rfl⟩
  · refine w_norm [2, 3, 29] rfl rfl ?_
    refine twp_cond _ rfl (fun h6 => ?_) (fun h6 => ?_)
    · replace hm := iteB_T h6 hm
      refine twp_rseq ?_
      refine s_a tab_ok rfl ?_
      refine tops_nil ?_
      refine w_norm [4] rfl rfl ?_
      refine twp_ret ?_
      refine way_thenRet ?_
      obtain rfl := Option.some.inj hm
      exact EndsS.one _ rfl (.d _) (.refl _)
    · replace hm := iteB_F h6 hm
      refine twp_skip ?_
      refine way_then ?_
      refine w_norm [2, 3] rfl rfl ?_
      refine w_joinS hm (fun _ => ([] : Fr)) (fun _ => ([] : List (Nat × Blk))) [] [3] rfl (fun z7 hm hz7 => ?_) (fun j hm => ?_)
      · refine twp_rseq ?_
        iterate 2 (refine s_a tab_ok rfl ?_)
        refine s_x rfl rfl (x_len tab_ok rfl rfl rfl) ?_
        refine s_a tab_ok rfl ?_
        refine tops_nil ?_
        refine w_norm [2, 3, 31, 32, 33] rfl rfl ?_
        refine twp_block ?_
        refine w_loop hm (fun x9 => ([(33, .d (.int .i64 x9))] : Fr)) (fun x9 => ([] : List (Nat × Blk))) [33] [2, 3, 31, 32] [0, 1] rfl k0 rfl rfl rfl rfl rfl (fun x9 z10 hm hz10 => ?_)
        refine w_norm [2, 3, 31, 32, 33] rfl rfl ?_
        refine twp_rseq ?_
        refine s_a tab_ok rfl ?_
        refine tops_nil ?_
        refine w_norm [2, 3, 31, 32, 33, 34] rfl rfl ?_
        refine twp_seq ?_
        refine twp_cond _ rfl (fun h11 => ?_) (fun h11 => ?_)
        · replace hm := ite_T h11 hm
          refine twp_skip ?_
          refine way_then ?_
          refine w_norm [2, 3, 31, 32, 33] rfl rfl ?_
          refine twp_seq ?_
          refine twp_block ?_
          refine twp_rseq ?_
          refine s_a tab_ok rfl ?_
          obtain ⟨e12, he12, hm⟩ := get_inv hm
          refine s_x rfl rfl (x_ix tab_ok rfl rfl rfl rfl he12) ?_
          refine s_a tab_ok rfl ?_
          refine s_al 2 rfl rfl zero70 rfl ?_
          iterate 2 (refine s_a tab_ok rfl ?_)
          refine tops_nil ?_
          refine w_norm [2, 3, 5, 6, 31, 32, 33] rfl rfl ?_
          refine twp_dseq follows  ?_
          iterate 4 (refine d_a [0, 1, 2] tab_ok rfl ?_)
          obtain ⟨e13, he13, hm⟩ := get_inv hm
          refine d_x [0, 1, 2] rfl rfl (x_ix tab_ok rfl rfl rfl rfl he13) ?_
          iterate 2 (refine d_a [0, 1, 2] tab_ok rfl ?_)
          refine d_x [0, 1, 2] rfl rfl (x_len tab_ok rfl rfl rfl) ?_
          obtain ⟨r14, hr14, hm⟩ := bind_inv hm
          refine d_x [0, 1, 2] rfl rfl (rd_callRN rfl rfl (snaps_cons (.d _) (snaps_cons (.d _) snaps_nil)) (locks_routeFits_c hr14)) ?_
          refine d_a [0, 1, 2] tab_ok rfl ?_
          refine d_tail ?_ (by kernel_rfl)
          refine tops_nil ?_
          refine w_norm [2, 3, 31, 32, 33, 47] rfl rfl ?_
          refine twp_cond _ rfl (fun h15 => ?_) (fun h15 => ?_)
          · replace hm := iteB_T h15 hm
            refine twp_rseq ?_
            refine s_a tab_ok rfl ?_
            refine tops_nil ?_
            refine w_norm [4] rfl rfl ?_
            refine twp_ret ?_
            refine way_blockRet ?_
            refine way_thenRet ?_
            obtain ⟨v16, hm, hz⟩ := inr_inv hm
            rw [hz10 _ hz] at hm
            refine way_thenRet ?_
            refine way_blockRet ?_
            obtain ⟨v17, hm, hz⟩ := inr_inv hm
            rw [hz7 _ hz] at hm
            refine way_thenRet ?_
            obtain rfl := Option.some.inj hm
            exact EndsS.one _ rfl (.d _) (.refl _)
          · replace hm := iteB_F h15 hm
            refine twp_skip ?_
            refine way_block ?_
            refine way_then ?_
            refine w_norm [2, 3, 31, 32, 33] rfl rfl ?_
            refine twp_region ?_
            obtain ⟨g18, hm⟩ := guard_inv hm
            refine s_x rfl rfl (x_ar rfl rfl rfl rfl g18) ?_
            refine s_a tab_ok rfl ?_
            refine tops_nil ?_
            refine way_then ?_
            exact ⟨_, [0, 1], (Option.some.inj hm).symm, rfl, k0, rfl⟩
        · replace hm := ite_F h11 hm
          refine twp_exit ?_
          refine way_thenExit ?_
          obtain ⟨v19, hm, hz⟩ := inr_inv hm
          rw [hz10 _ hz] at hm
          refine way_thenExit ?_
          refine way_here ?_
          refine way_then ?_
          exact ⟨_, [0, 1], (Option.some.inj hm).symm, rfl, k0, rfl⟩
      · refine w_norm [3] rfl rfl ?_
        refine w_joinS hm (fun _ => ([] : Fr)) (fun _ => ([] : List (Nat × Blk))) [] [] rfl (fun z20 hm hz20 => ?_) (fun j hm => ?_)
        · refine twp_rseq ?_
          iterate 2 (refine s_a tab_ok rfl ?_)
          refine s_x rfl rfl (x_len tab_ok rfl rfl rfl) ?_
          refine s_a tab_ok rfl ?_
          refine tops_nil ?_
          refine w_norm [50, 51, 52] rfl rfl ?_
          refine twp_block ?_
          refine w_loop hm (fun x22 => ([(52, .d (.int .i64 x22))] : Fr)) (fun x22 => ([] : List (Nat × Blk))) [52] [50, 51] [0, 1] rfl k0 rfl rfl rfl rfl rfl (fun x22 z23 hm hz23 => ?_)
          refine w_norm [50, 51, 52] rfl rfl ?_
          refine twp_rseq ?_
          refine s_a tab_ok rfl ?_
          refine tops_nil ?_
          refine w_norm [50, 51, 52, 53] rfl rfl ?_
          refine twp_seq ?_
          refine twp_cond _ rfl (fun h24 => ?_) (fun h24 => ?_)
          · replace hm := ite_T h24 hm
            refine twp_skip ?_
            refine way_then ?_
            refine w_norm [50, 51, 52] rfl rfl ?_
            refine twp_seq ?_
            refine twp_block ?_
            refine twp_rseq ?_
            obtain ⟨e25, he25, hm⟩ := get_inv hm
            refine s_x rfl rfl (x_ix tab_ok rfl rfl rfl rfl he25) ?_
            iterate 2 (refine s_a tab_ok rfl ?_)
            refine tops_nil ?_
            refine w_norm [8, 50, 51, 52] rfl rfl ?_
            refine w_cut [(61, .d (.bool (((!(decide (e25 = (1 : Int)))) && (!(decide (e25 = (2 : Int))))))))] [61] [50, 51, 52] rfl ?_ ?_
            · refine twp_region ?_
              iterate 2 (refine s_a tab_ok rfl ?_)
              refine s_b tab_ok rfl (fun q26 hq26 => ?_)
              cases q26
              · iterate 3 (refine s_a tab_ok rfl ?_)
                refine tops_nil ?_
                refine way_then ?_
                exact ⟨[0, 1], rfl, k0, st_eq (fr_cons (av_bool (by simp [hq26])) rfl) rfl⟩
              · iterate 3 (refine s_a tab_ok rfl ?_)
                refine tops_nil ?_
                refine way_then ?_
                exact ⟨[0, 1], rfl, k0, st_eq (fr_cons (av_bool (by simp [hq26])) rfl) rfl⟩
            · refine w_norm [50, 51, 52, 61] rfl rfl ?_
              refine twp_cond _ rfl (fun h27 => ?_) (fun h27 => ?_)
              · replace hm := iteB_T h27 hm
                refine twp_rseq ?_
                refine s_a tab_ok rfl ?_
                refine tops_nil ?_
                refine w_norm [4] rfl rfl ?_
                refine twp_ret ?_
                refine way_blockRet ?_
                refine way_thenRet ?_
                obtain ⟨v28, hm, hz⟩ := inr_inv hm
                rw [hz23 _ hz] at hm
                refine way_thenRet ?_
                refine way_blockRet ?_
                obtain ⟨v29, hm, hz⟩ := inr_inv hm
                rw [hz20 _ hz] at hm
                refine way_thenRet ?_
                obtain rfl := Option.some.inj hm
                exact EndsS.one _ rfl (.d _) (.refl _)
              · replace hm := iteB_F h27 hm
                refine twp_skip ?_
                refine way_block ?_
                refine way_then ?_
                refine w_norm [50, 51, 52] rfl rfl ?_
                refine twp_region ?_
                obtain ⟨g30, hm⟩ := guard_inv hm
                refine s_x rfl rfl (x_ar rfl rfl rfl rfl g30) ?_
                refine s_a tab_ok rfl ?_
                refine tops_nil ?_
                refine way_then ?_
                exact ⟨_, [0, 1], (Option.some.inj hm).symm, rfl, k0, rfl⟩
          · replace hm := ite_F h24 hm
            refine twp_exit ?_
            refine way_thenExit ?_
            obtain ⟨v31, hm, hz⟩ := inr_inv hm
            rw [hz23 _ hz] at hm
            refine way_thenExit ?_
            refine way_here ?_
            refine way_then ?_
            exact ⟨_, [0, 1], (Option.some.inj hm).symm, rfl, k0, rfl⟩
        · refine w_norm [] rfl rfl ?_
          refine twp_rseq ?_
          refine s_a tab_ok rfl ?_
          refine tops_nil ?_
          refine w_norm [4] rfl rfl ?_
          refine twp_ret ?_
          obtain rfl := Option.some.inj hm
          exact EndsS.one _ rfl (.d _) (.refl _)

theorem slices_Clone_int_c {p0 : (List Int)} {r : (List Int)} (hm : slices_Clone_int p0 = some r) : RetD Try.prog 58 [.sl 1 (p0.map (D.int .i64))] (.sl 1 (r.map (D.int .i64))) := by
  refine .of (mv := fun _ => false) (ret_bodyS callB58 Try.func58 rfl Try.ntmps58 rfl rfl (fun wX gX => ?_))
  unfold slices_Clone_int at hm
  refine w_norm [0] rfl rfl ?_
  refine twp_rseq ?_
  refine s_a tab_ok rfl ?_
  refine tops_nil ?_
  refine w_norm [0] rfl rfl ?_
  refine twp_seq ?_
  refine twp_rseq ?_
  refine s_a tab_ok rfl ?_
  refine s_eqNil rfl Try.underlying23 rfl rfl (fun b1 hb1 => ?_)
  refine tops_nil ?_
  refine w_norm [0, 4] rfl rfl ?_
  refine twp_cond _ rfl (fun h2 => ?_) (fun h2 => ?_)
  · obtain ⟨hnb1, hm⟩ := nil_T (hb1 h2) hm
    subst hnb1
    refine twp_rseq ?_
    refine s_a tab_ok rfl ?_
    refine tops_nil ?_
    refine c_wk 2 [some 1] rfl ?_
    refine w_norm [2] rfl rfl ?_
    refine twp_ret ?_
    refine way_thenRet ?_
    obtain rfl := Option.some.inj hm
    exact EndsS.one _ rfl (.d _) (.refl _)
  · replace hm := nil_F hm
    refine twp_skip ?_
    refine way_then ?_
    refine w_norm [0] rfl rfl ?_
    refine twp_rseq ?_
    refine s_litO (f := (D.int .i64)) 0 [] ([] : List Int) tab_ok rfl rfl rfl zero3 rfl rfl rfl rfl rfl ?_
    refine s_a tab_ok rfl ?_
    obtain ⟨g3, hm⟩ := guard_inv hm
    refine s_app (f := (D.int .i64)) p0 tab_ok rfl rfl zero3 rfl rfl rfl rfl rfl (fun h => absurd h (Nat.not_lt_zero _)) rfl src_d g3 rfl rfl ?_
    refine s_a tab_ok rfl ?_
    refine tops_nil ?_
    refine w_norm [2] rfl rfl ?_
    refine twp_ret ?_
    obtain rfl := Option.some.inj hm
    exact EndsS.one _ rfl (snap_map rfl) (.refl _)

theorem locks_path_c {p0 : Route} {p1 : RouteState} {r : (List Int)} (hm : locks_path p0 p1 = some r) : RetD Try.prog 34 [p0.enc, p1.enc] (.sl 1 (r.map (D.int .i64))) := by
  refine .of (mv := fun _ => false) (ret_bodyS callB34 Try.func34 rfl Try.ntmps34 rfl rfl (fun wX gX => ?_))
  unfold locks_path at hm
  refine w_norm [0, 1] rfl rfl ?_
  refine twp_rseq ?_
  refine s_bx 0 rfl rfl rfl ?_
  refine s_bx 1 rfl rfl rfl ?_
  refine s_a tab_ok rfl ?_
  refine tops_nil ?_
  refine w_norm [2, 3] rfl rfl ?_
  refine twp_seq ?_
  refine twp_rseq ?_
  iterate 3 (refine s_a tab_ok rfl ?_)
  refine tops_nil ?_
  refine w_norm [2, 3, 7] rfl rfl ?_
  refine twp_cond _ rfl (fun h1 => ?_) (fun h1 => ?_)
  · replace hm := ite_T h1 hm
    refine twp_rseq ?_
    refine s_a tab_ok rfl ?_
    refine tops_nil ?_
    refine c_wk 4 [some 1] rfl ?_
    refine w_norm [4] rfl rfl ?_
    refine twp_ret ?_
    refine way_thenRet ?_
    obtain rfl := Option.some.inj hm
    exact EndsS.one _ rfl (.d _) (.refl _)
  · replace hm := ite_F h1 hm
    refine twp_skip ?_
    refine way_then ?_
    refine w_norm [2, 3] rfl rfl ?_
    refine twp_rseq ?_
    iterate 4 (refine s_a tab_ok rfl ?_)
    obtain ⟨g2, hm⟩ := guard_inv hm
    refine s_x rfl rfl (x_cut tab_ok rfl rfl rfl rfl rfl g2) ?_
    obtain ⟨r3, hr3, hm⟩ := bind_inv hm
    refine s_x rfl rfl (rd_callRD rfl rfl rfl (slices_Clone_int_c hr3)) ?_
    refine s_a tab_ok rfl ?_
    refine tops_nil ?_
    refine w_norm [4] rfl rfl ?_
    refine twp_ret ?_
    obtain rfl := Option.some.inj hm
    exact EndsS.one _ rfl (.d _) (.refl _)

theorem locks_Path_c {p0 : Table} {p1 : Inter} {p2 : Int} {r : (List Int)} (hm : locks_Path p0 p1 p2 = some r) : RetD Try.prog 19 [p0.enc, p1.enc, .int .i64 p2] (.sl 1 (r.map (D.int .i64))) := by
  refine .of (mv := fun _ => false) (ret_bodyS callB19 Try.func19 rfl Try.ntmps19 rfl rfl (fun wX gX => ?_))
  unfold locks_Path at hm
  refine w_norm [0, 1, 2] rfl rfl ?_
  refine twp_rseq ?_
  refine s_bx 0 rfl rfl rfl ?_
  refine s_bx 1 rfl rfl rfl ?_
  refine s_a tab_ok rfl ?_
  refine tops_nil ?_
  refine w_norm [2, 3, 4] rfl rfl ?_
  refine twp_seq ?_
  refine w_joinM hm (fun x1 => ([(21, .d (.bool (x1)))] : Fr)) (fun x1 => ([] : List (Nat × Blk))) [21] [2, 3, 4] rfl (fun z2 hm => ?_) (fun x1 hm => ?_)
  · refine twp_region ?_
    iterate 2 (refine s_a tab_ok rfl ?_)
    refine s_b tab_ok rfl (fun q3 hq3 => ?_)
    cases q3
    · replace hm := ite_F hq3 hm
      iterate 3 (refine s_a tab_ok rfl ?_)
      refine s_x rfl rfl (x_len tab_ok rfl rfl rfl) ?_
      iterate 2 (refine s_a tab_ok rfl ?_)
      refine s_b tab_ok rfl (fun q4 hq4 => ?_)
      cases q4
      · replace hm := ite_F hq4 hm
        iterate 2 (refine s_a tab_ok rfl ?_)
        obtain ⟨r5, hr5, hm⟩ := bind_inv hm
        refine s_x rfl rfl (rd_callRN rfl rfl (snaps_cons (.d _) (snaps_cons (.d _) snaps_nil)) (locks_fits_c hr5)) ?_
        iterate 2 (refine s_a tab_ok rfl ?_)
        refine tops_nil ?_
        refine way_then ?_
        exact ⟨_, [0, 1], (Option.some.inj hm).symm, rfl, k0, rfl⟩
      · replace hm := ite_T hq4 hm
        iterate 5 (refine s_a tab_ok rfl ?_)
        refine tops_nil ?_
        refine way_then ?_
        exact ⟨_, [0, 1], (Option.some.inj hm).symm, rfl, k0, rfl⟩
    · replace hm := ite_T hq3 hm
      iterate 12 (refine s_a tab_ok rfl ?_)
      refine tops_nil ?_
      refine way_then ?_
      exact ⟨_, [0, 1], (Option.some.inj hm).symm, rfl, k0, rfl⟩
  · refine w_norm [2, 3, 4, 21] rfl rfl ?_
    refine twp_cond _ rfl (fun h6 => ?_) (fun h6 => ?_)
    · replace hm := iteB_T h6 hm
      refine twp_rseq ?_
      refine s_a tab_ok rfl ?_
      refine tops_nil ?_
      refine c_wk 6 [some 1] rfl ?_
      refine w_norm [6] rfl rfl ?_
      refine twp_ret ?_
      refine way_thenRet ?_
      obtain rfl := Option.some.inj hm
      exact EndsS.one _ rfl (.d _) (.refl _)
    · replace hm := iteB_F h6 hm
      refine twp_skip ?_
      refine way_then ?_
      refine w_norm [2, 3, 4] rfl rfl ?_
      refine twp_dseq follows  ?_
      iterate 3 (refine d_a [0, 1] tab_ok rfl ?_)
      obtain ⟨e7, he7, hm⟩ := get_inv hm
      refine d_x [0, 1] rfl rfl (x_ix tab_ok rfl rfl rfl rfl he7) ?_
      iterate 4 (refine d_a [0, 1] tab_ok rfl ?_)
      obtain ⟨e8, he8, hm⟩ := get_inv hm
      refine d_x [0, 1] rfl rfl (x_ix tab_ok rfl rfl rfl rfl he8) ?_
      refine d_a [0, 1] tab_ok rfl ?_
      obtain ⟨r9, hr9, hm⟩ := bind_inv hm
      refine d_x [0, 1] rfl rfl (rd_callRD rfl rfl rfl (locks_path_c hr9)) ?_
      refine d_tail ?_ (by kernel_rfl)
      refine s_a tab_ok rfl ?_
      refine tops_nil ?_
      refine w_norm [6] rfl rfl ?_
      refine twp_ret ?_
      obtain rfl := Option.some.inj hm
      exact EndsS.one _ rfl (.d _) (.refl _)

theorem slices_Contains_int_c {p0 : (List Int)} {p1 : Int} {r : Bool} (hm : slices_Contains_int p0 p1 = some r) : RetN Try.prog 52 [.sl 1 (p0.map (D.int .i64)), .int .i64 p1] (.bool (r)) := by
  refine .unit (ret_bodyS callB52 Try.func52 rfl Try.ntmps52 rfl rfl (fun wX gX => ?_)) rfl
  unfold slices_Contains_int at hm
  refine w_norm [0, 1] rfl rfl ?_
  refine twp_rseq ?_
  refine s_a tab_ok rfl ?_
  refine tops_nil ?_
  refine w_norm [0, 1] rfl rfl ?_
  refine twp_rseq ?_
  iterate 2 (refine s_a tab_ok rfl ?_)
  obtain ⟨r1, hr1, hm⟩ := bind_inv hm
  refine s_x rfl rfl (rd_callRN rfl rfl (snaps_cons (.d _) (snaps_cons (.d _) snaps_nil)) (slices_Index_int_c hr1)) ?_
  iterate 2 (refine s_a tab_ok rfl ?_)
  refine tops_nil ?_
  refine w_norm [4] rfl rfl ?_
  refine twp_ret ?_
  obtain rfl := Option.some.inj hm
  exact EndsS.one _ rfl (.d _) (.refl _)

theorem locks_over_c {p0 : Route} {p1 : RouteState} {r : (List Int)} (hm : locks_over p0 p1 = some r) : RetD Try.prog 35 [p0.enc, p1.enc] (.sl 1 (r.map (D.int .i64))) := by
  refine .of (mv := fun _ => false) (ret_bodyS callB35 Try.func35 rfl Try.ntmps35 rfl rfl (fun wX gX => ?_))
  unfold locks_over at hm
  refine w_norm [0, 1] rfl rfl ?_
  refine twp_rseq ?_
  refine s_bx 0 rfl rfl rfl ?_
  refine s_bx 1 rfl rfl rfl ?_
  refine s_a tab_ok rfl ?_
  refine tops_nil ?_
  refine w_norm [2, 3] rfl rfl ?_
  refine twp_seq ?_
  refine twp_rseq ?_
  iterate 3 (refine s_a tab_ok rfl ?_)
  refine tops_nil ?_
  refine w_norm [2, 7] rfl rfl ?_
  refine twp_cond _ rfl (fun h1 => ?_) (fun h1 => ?_)
  · replace hm := ite_T h1 hm
    refine twp_rseq ?_
    refine s_a tab_ok rfl ?_
    refine tops_nil ?_
    refine c_wk 4 [some 1] rfl ?_
    refine w_norm [4] rfl rfl ?_
    refine twp_ret ?_
    refine way_thenRet ?_
    obtain rfl := Option.some.inj hm
    exact EndsS.one _ rfl (.d _) (.refl _)
  · replace hm := ite_F h1 hm
    refine twp_skip ?_
    refine way_then ?_
    refine w_norm [2] rfl rfl ?_
    refine twp_rseq ?_
    iterate 2 (refine s_a tab_ok rfl ?_)
    obtain ⟨r2, hr2, hm⟩ := bind_inv hm
    refine s_x rfl rfl (rd_callRD rfl rfl rfl (slices_Clone_int_c hr2)) ?_
    refine s_a tab_ok rfl ?_
    refine tops_nil ?_
    refine w_norm [4] rfl rfl ?_
    refine twp_ret ?_
    obtain rfl := Option.some.inj hm
    exact EndsS.one _ rfl (.d _) (.refl _)

theorem locks_Over_c {p0 : Table} {p1 : Inter} {p2 : Int} {r : (List Int)} (hm : locks_Over p0 p1 p2 = some r) : RetD Try.prog 20 [p0.enc, p1.enc, .int .i64 p2] (.sl 1 (r.map (D.int .i64))) := by
  refine .of (mv := fun _ => false) (ret_bodyS callB20 Try.func20 rfl Try.ntmps20 rfl rfl (fun wX gX => ?_))
  unfold locks_Over at hm
  refine w_norm [0, 1, 2] rfl rfl ?_
  refine twp_rseq ?_
  refine s_bx 0 rfl rfl rfl ?_
  refine s_bx 1 rfl rfl rfl ?_
  refine s_a tab_ok rfl ?_
  refine tops_nil ?_
  refine w_norm [2, 3, 4] rfl rfl ?_
  refine twp_seq ?_
  refine w_joinM hm (fun x1 => ([(21, .d (.bool (x1)))] : Fr)) (fun x1 => ([] : List (Nat × Blk))) [21] [2, 3, 4] rfl (fun z2 hm => ?_) (fun x1 hm => ?_)
  · refine twp_region ?_
    iterate 2 (refine s_a tab_ok rfl ?_)
    refine s_b tab_ok rfl (fun q3 hq3 => ?_)
    cases q3
    · replace hm := ite_F hq3 hm
      iterate 3 (refine s_a tab_ok rfl ?_)
      refine s_x rfl rfl (x_len tab_ok rfl rfl rfl) ?_
      iterate 2 (refine s_a tab_ok rfl ?_)
      refine s_b tab_ok rfl (fun q4 hq4 => ?_)
      cases q4
      · replace hm := ite_F hq4 hm
        iterate 2 (refine s_a tab_ok rfl ?_)
        obtain ⟨r5, hr5, hm⟩ := bind_inv hm
        refine s_x rfl rfl (rd_callRN rfl rfl (snaps_cons (.d _) (snaps_cons (.d _) snaps_nil)) (locks_fits_c hr5)) ?_
        iterate 2 (refine s_a tab_ok rfl ?_)
        refine tops_nil ?_
        refine way_then ?_
        exact ⟨_, [0, 1], (Option.some.inj hm).symm, rfl, k0, rfl⟩
      · replace hm := ite_T hq4 hm
        iterate 5 (refine s_a tab_ok rfl ?_)
        refine tops_nil ?_
        refine way_then ?_
        exact ⟨_, [0, 1], (Option.some.inj hm).symm, rfl, k0, rfl⟩
    · replace hm := ite_T hq3 hm
      iterate 12 (refine s_a tab_ok rfl ?_)
      refine tops_nil ?_
      refine way_then ?_
      exact ⟨_, [0, 1], (Option.some.inj hm).symm, rfl, k0, rfl⟩
  · refine w_norm [2, 3, 4, 21] rfl rfl ?_
    refine twp_cond _ rfl (fun h6 => ?_) (fun h6 => ?_)
    · replace hm := iteB_T h6 hm
      refine twp_rseq ?_
      refine s_a tab_ok rfl ?_
      refine tops_nil ?_
      refine c_wk 6 [some 1] rfl ?_
      refine w_norm [6] rfl rfl ?_
      refine twp_ret ?_
      refine way_thenRet ?_
      obtain rfl := Option.some.inj hm
      exact EndsS.one _ rfl (.d _) (.refl _)
    · replace hm := iteB_F h6 hm
      refine twp_skip ?_
      refine way_then ?_
      refine w_norm [2, 3, 4] rfl rfl ?_
      refine twp_dseq follows  ?_
      iterate 3 (refine d_a [0, 1] tab_ok rfl ?_)
      obtain ⟨e7, he7, hm⟩ := get_inv hm
      refine d_x [0, 1] rfl rfl (x_ix tab_ok rfl rfl rfl rfl he7) ?_
      iterate 4 (refine d_a [0, 1] tab_ok rfl ?_)
      obtain ⟨e8, he8, hm⟩ := get_inv hm
      refine d_x [0, 1] rfl rfl (x_ix tab_ok rfl rfl rfl rfl he8) ?_
      refine d_a [0, 1] tab_ok rfl ?_
      obtain ⟨r9, hr9, hm⟩ := bind_inv hm
      refine d_x [0, 1] rfl rfl (rd_callRD rfl rfl rfl (locks_over_c hr9)) ?_
      refine d_tail ?_ (by kernel_rfl)
      refine s_a tab_ok rfl ?_
      refine tops_nil ?_
      refine w_norm [6] rfl rfl ?_
      refine twp_ret ?_
      obtain rfl := Option.some.inj hm
      exact EndsS.one _ rfl (.d _) (.refl _)

theorem possession_locked_c {p0 : Table} {p1 : Inter} {p2 : Int} {r : Bool} (hm : possession_locked p0 p1 p2 = some r) : RetN Try.prog 27 [p0.enc, p1.enc, .int .i64 p2] (.bool (r)) := by
  refine .unit (ret_bodyS callB27 Try.func27 rfl Try.ntmps27 rfl rfl (fun wX gX => ?_)) rfl
  unfold possession_locked at hm
  refine w_norm [0, 1, 2] rfl rfl ?_
  refine twp_rseq ?_
  refine s_bx 0 rfl rfl rfl ?_
  refine s_bx 1 rfl rfl rfl ?_
  refine s_a tab_ok rfl ?_
  refine tops_nil ?_
  refine w_norm [2, 3, 4] rfl rfl ?_
  refine w_joinS hm (fun _ => ([] : Fr)) (fun _ => ([] : List (Nat × Blk))) [] [] rfl (fun z1 hm hz1 => ?_) (fun j hm => ?_)
  · refine twp_rseq ?_
    iterate 2 (refine s_a tab_ok rfl ?_)
    refine s_x rfl rfl (x_len tab_ok rfl rfl rfl) ?_
    refine s_a tab_ok rfl ?_
    refine tops_nil ?_
    refine w_norm [2, 3, 4, 10, 11] rfl rfl ?_
    refine twp_block ?_
    refine w_loop hm (fun x3 => ([(11, .d (.int .i64 x3))] : Fr)) (fun x3 => ([] : List (Nat × Blk))) [11] [2, 3, 4, 10] [0, 1] rfl k0 rfl rfl rfl rfl rfl (fun x3 z4 hm hz4 => ?_)
    refine w_norm [2, 3, 4, 10, 11] rfl rfl ?_
    refine twp_rseq ?_
    refine s_a tab_ok rfl ?_
    refine tops_nil ?_
    refine w_norm [2, 3, 4, 10, 11, 12] rfl rfl ?_
    refine twp_seq ?_
    refine twp_cond _ rfl (fun h5 => ?_) (fun h5 => ?_)
    · replace hm := ite_T h5 hm
      refine twp_skip ?_
      refine way_then ?_
      refine w_norm [2, 3, 4, 10, 11] rfl rfl ?_
      refine twp_seq ?_
      refine twp_block ?_
      refine twp_rseq ?_
      iterate 2 (refine s_a tab_ok rfl ?_)
      refine tops_nil ?_
      refine w_norm [2, 3, 4, 7, 10, 11] rfl rfl ?_
      refine w_joinM hm (fun x6 => ([(27, .d (.bool (x6)))] : Fr)) (fun x6 => ([] : List (Nat × Blk))) [27] [2, 3, 4, 10, 11] rfl (fun z7 hm => ?_) (fun x6 hm => ?_)
      · refine twp_region ?_
        iterate 3 (refine s_a tab_ok rfl ?_)
        obtain ⟨r8, hr8, hm⟩ := bind_inv hm
        refine s_x rfl rfl (rd_callRD rfl rfl rfl (locks_Path_c hr8)) ?_
        refine s_a tab_ok rfl ?_
        obtain ⟨r9, hr9, hm⟩ := bind_inv hm
        refine s_x rfl rfl (rd_callRN rfl rfl (snaps_cons (.d _) (snaps_cons (.d _) snaps_nil)) (slices_Contains_int_c hr9)) ?_
        refine s_b tab_ok rfl (fun q10 hq10 => ?_)
        cases q10
        · replace hm := iteB_F hq10 hm
          iterate 3 (refine s_a tab_ok rfl ?_)
          obtain ⟨r11, hr11, hm⟩ := bind_inv hm
          refine s_x rfl rfl (rd_callRD rfl rfl rfl (locks_Over_c hr11)) ?_
          refine s_a tab_ok rfl ?_
          obtain ⟨r12, hr12, hm⟩ := bind_inv hm
          refine s_x rfl rfl (rd_callRN rfl rfl (snaps_cons (.d _) (snaps_cons (.d _) snaps_nil)) (slices_Contains_int_c hr12)) ?_
          refine s_a tab_ok rfl ?_
          refine tops_nil ?_
          refine way_then ?_
          exact ⟨_, [0, 1], (Option.some.inj hm).symm, rfl, k0, rfl⟩
        · replace hm := iteB_T hq10 hm
          iterate 7 (refine s_a tab_ok rfl ?_)
          refine tops_nil ?_
          refine way_then ?_
          exact ⟨_, [0, 1], (Option.some.inj hm).symm, rfl, k0, rfl⟩
      · refine w_norm [2, 3, 4, 10, 11, 27] rfl rfl ?_
        refine twp_cond _ rfl (fun h13 => ?_) (fun h13 => ?_)
        · replace hm := iteB_T h13 hm
          refine twp_rseq ?_
          refine s_a tab_ok rfl ?_
          refine tops_nil ?_
          refine w_norm [6] rfl rfl ?_
          refine twp_ret ?_
          refine way_blockRet ?_
          refine way_thenRet ?_
          obtain ⟨v14, hm, hz⟩ := inr_inv hm
          rw [hz4 _ hz] at hm
          refine way_thenRet ?_
          refine way_blockRet ?_
          obtain ⟨v15, hm, hz⟩ := inr_inv hm
          rw [hz1 _ hz] at hm
          refine way_thenRet ?_
          obtain rfl := Option.some.inj hm
          exact EndsS.one _ rfl (.d _) (.refl _)
        · replace hm := iteB_F h13 hm
          refine twp_skip ?_
          refine way_block ?_
          refine way_then ?_
          refine w_norm [2, 3, 4, 10, 11] rfl rfl ?_
          refine twp_region ?_
          obtain ⟨g16, hm⟩ := guard_inv hm
          refine s_x rfl rfl (x_ar rfl rfl rfl rfl g16) ?_
          refine s_a tab_ok rfl ?_
          refine tops_nil ?_
          refine way_then ?_
          exact ⟨_, [0, 1], (Option.some.inj hm).symm, rfl, k0, rfl⟩
    · replace hm := ite_F h5 hm
      refine twp_exit ?_
      refine way_thenExit ?_
      obtain ⟨v17, hm, hz⟩ := inr_inv hm
      rw [hz4 _ hz] at hm
      refine way_thenExit ?_
      refine way_here ?_
      refine way_then ?_
      exact ⟨_, [0, 1], (Option.some.inj hm).symm, rfl, k0, rfl⟩
  · refine w_norm [] rfl rfl ?_
    refine twp_rseq ?_
    refine s_a tab_ok rfl ?_
    refine tops_nil ?_
    refine w_norm [6] rfl rfl ?_
    refine twp_ret ?_
    obtain rfl := Option.some.inj hm
    exact EndsS.one _ rfl (.d _) (.refl _)

theorem possession_Take_c1_c {p0 : Possession} {p1 : Possession} {r : Bool} (hm : possession_Take_c1 p0 p1 = some r) : RetN Try.prog 29 [p0.enc, .ptr (p1.enc) 0] (.bool (r)) := by
  refine .unit (ret_bodyS callB29 Try.func29 rfl Try.ntmps29 rfl rfl (fun wX gX => ?_)) rfl
  unfold possession_Take_c1 at hm
  refine w_norm [0, 1] rfl rfl ?_
  refine twp_rseq ?_
  refine s_bx 0 rfl rfl rfl ?_
  refine s_a tab_ok rfl ?_
  refine tops_nil ?_
  refine w_norm [1, 2] rfl rfl ?_
  refine twp_rseq ?_
  iterate 6 (refine s_a tab_ok rfl ?_)
  refine tops_nil ?_
  refine w_norm [3] rfl rfl ?_
  refine twp_ret ?_
  obtain rfl := Option.some.inj hm
  exact EndsS.one _ rfl (.d _) (.refl _)

theorem slices_IndexFunc_Possession_c {p0 : (List Possession)} {p1 : Possession → Option Bool} {c1 : D} (hf1 : ∀ a0 r, p1 a0 = some r → ∃ F cs, fnOf c1 = some (F, cs) ∧ RetD Try.prog F ([a0.enc] ++ cs) (.bool (r))) {r : Int} (hm : slices_IndexFunc_Possession p0 p1 = some r) : RetN Try.prog 28 [.sl 4 (p0.map Possession.enc), c1] (.int .i64 r) := by
  refine .unit (ret_bodyS callB28 Try.func28 rfl Try.ntmps28 rfl rfl (fun wX gX => ?_)) rfl
  unfold slices_IndexFunc_Possession at hm
  refine w_norm [0, 1] rfl rfl ?_
  refine twp_rseq ?_
  refine s_a tab_ok rfl ?_
  refine tops_nil ?_
  refine w_norm [0, 1] rfl rfl ?_
  refine w_joinS hm (fun _ => ([] : Fr)) (fun _ => ([] : List (Nat × Blk))) [] [] rfl (fun z1 hm hz1 => ?_) (fun j hm => ?_)
  · refine twp_rseq ?_
    refine s_a tab_ok rfl ?_
    refine s_x rfl rfl (x_len tab_ok rfl rfl rfl) ?_
    refine s_a tab_ok rfl ?_
    refine tops_nil ?_
    refine w_norm [0, 1, 7, 8] rfl rfl ?_
    refine twp_block ?_
    refine w_loop hm (fun x3 => ([(8, .d (.int .i64 x3))] : Fr)) (fun x3 => ([] : List (Nat × Blk))) [8] [0, 1, 7] [] rfl k0 rfl rfl rfl rfl rfl (fun x3 z4 hm hz4 => ?_)
    refine w_norm [0, 1, 7, 8] rfl rfl ?_
    refine twp_rseq ?_
    refine s_a tab_ok rfl ?_
    refine tops_nil ?_
    refine w_norm [0, 1, 7, 8, 9] rfl rfl ?_
    refine twp_seq ?_
    refine twp_cond _ rfl (fun h5 => ?_) (fun h5 => ?_)
    · replace hm := ite_T h5 hm
      refine twp_skip ?_
      refine way_then ?_
      refine w_norm [0, 1, 7, 8] rfl rfl ?_
      refine twp_seq ?_
      refine twp_block ?_
      refine twp_rseq ?_
      iterate 2 (refine s_a tab_ok rfl ?_)
      refine tops_nil ?_
      refine w_norm [0, 1, 5, 7, 8] rfl rfl ?_
      refine twp_rseq ?_
      iterate 3 (refine s_a tab_ok rfl ?_)
      obtain ⟨e6, he6, hm⟩ := get_inv hm
      refine s_x rfl rfl (x_ix tab_ok rfl rfl rfl rfl he6) ?_
      refine s_a tab_ok rfl ?_
      obtain ⟨r7, hr7, hm⟩ := bind_inv hm
      obtain ⟨Fr7, csr7, hFr7, hcr7⟩ := hf1 _ _ hr7
      refine s_x rfl rfl (rd_callC rfl rfl hFr7 rfl hcr7) ?_
      refine tops_nil ?_
      refine w_norm [0, 1, 5, 7, 8, 16] rfl rfl ?_
      refine twp_cond _ rfl (fun h8 => ?_) (fun h8 => ?_)
      · replace hm := iteB_T h8 hm
        refine twp_rseq ?_
        iterate 2 (refine s_a tab_ok rfl ?_)
        refine tops_nil ?_
        refine w_norm [4] rfl rfl ?_
        refine twp_ret ?_
        refine way_blockRet ?_
        refine way_thenRet ?_
        obtain ⟨v9, hm, hz⟩ := inr_inv hm
        rw [hz4 _ hz] at hm
        refine way_thenRet ?_
        refine way_blockRet ?_
        obtain ⟨v10, hm, hz⟩ := inr_inv hm
        rw [hz1 _ hz] at hm
        refine way_thenRet ?_
        obtain rfl := Option.some.inj hm
        exact EndsS.one _ rfl (.d _) (.refl _)
      · replace hm := iteB_F h8 hm
        refine twp_skip ?_
        refine way_block ?_
        refine way_then ?_
        refine w_norm [0, 1, 7, 8] rfl rfl ?_
        refine twp_region ?_
        obtain ⟨g11, hm⟩ := guard_inv hm
        refine s_x rfl rfl (x_ar rfl rfl rfl rfl g11) ?_
        refine s_a tab_ok rfl ?_
        refine tops_nil ?_
        refine way_then ?_
        exact ⟨_, [], (Option.some.inj hm).symm, rfl, k0, rfl⟩
    · replace hm := ite_F h5 hm
      refine twp_exit ?_
      refine way_thenExit ?_
      obtain ⟨v12, hm, hz⟩ := inr_inv hm
      rw [hz4 _ hz] at hm
      refine way_thenExit ?_
      refine way_here ?_
      refine way_then ?_
      exact ⟨_, [], (Option.some.inj hm).symm, rfl, k0, rfl⟩
  · refine w_norm [] rfl rfl ?_
    refine twp_rseq ?_
    refine s_a tab_ok rfl ?_
    refine tops_nil ?_
    refine w_norm [4] rfl rfl ?_
    refine twp_ret ?_
    obtain rfl := Option.some.inj hm
    exact EndsS.one _ rfl (.d _) (.refl _)

theorem slices_Concat_PossessionGrow (n : Nat) (hn : n ≤ 1000000000) (mv : Nat → Bool) : Ret Try.prog 53 [] mv ([.nilsl, .int .i64 n].map .d) (.msl 0 4 0 0) [.flat 31 4 []] := by
  refine ret_body callB53 Try.func53 rfl Try.ntmps53 rfl rfl (fun wX gX => ?_)
  refine twp_norm [0, 1] (sub_d rfl (sub_d rfl .nil)) (blk_nil rfl) ?_
  refine twp_rseq ?_
  refine s_rd _ rfl (mv_d (.inr rfl) rfl) ?_
  refine tops_nil ?_
  refine twp_norm [0, 1] (sub_d rfl (sub_d rfl .nil)) (blk_nil rfl) ?_
  refine twp_seq ?_
  refine twp_rseq ?_
  refine s_rd _ rfl (mv_d (.inl rfl) rfl) ?_
  refine s_rd _ rfl (cmp_int rfl rfl rfl rfl) ?_
  refine tops_nil ?_
  refine twp_norm [0, 1, 6] (sub_d rfl (sub_d rfl (sub_d rfl .nil))) (blk_nil rfl) ?_
  refine twp_cond _ rfl (fun hneg => ?_) (fun hneg => ?_)
  · exact absurd (of_decide_eq_true hneg) (by omega)
  · refine twp_skip ?_
    refine way_then ?_
    refine twp_norm [0, 1] (sub_d rfl (sub_d rfl .nil)) (blk_nil rfl) ?_
    refine twp_seq ?_
    refine twp_rseq ?_
    refine s_rd _ rfl (mv_d (.inl rfl) rfl) ?_
    refine s_rd _ rfl (mv_d (.inl rfl) rfl) ?_
    refine s_rd _ rfl (cap_nil rfl sel29 rfl) ?_
    refine s_rd _ rfl (mv_d (.inl rfl) rfl) ?_
    refine s_rd _ rfl (len_nil rfl sel29 rfl) ?_
    refine s_rd _ rfl (arith_to (r := 0) rfl rfl rfl rfl rfl (by first | omega | (constructor <;> omega))) ?_
    refine s_rd _ rfl (arith_to (r := (n : Int)) rfl rfl rfl rfl (by omega) (by first | omega | (constructor <;> omega))) ?_
    refine s_rd _ rfl (mv_d (.inr rfl) rfl) ?_
    refine tops_nil ?_
    refine twp_norm [0, 1] (sub_d rfl (sub_d rfl .nil)) (blk_nil rfl) ?_
    refine twp_rseq ?_
    refine s_rd _ rfl (mv_d (.inl rfl) rfl) ?_
    refine s_rd _ rfl (cmp_int rfl rfl rfl rfl) ?_
    refine tops_nil ?_
    refine twp_norm [0, 1, 16] (sub_d rfl (sub_d rfl (sub_d rfl .nil))) (blk_nil rfl) ?_
    refine twp_cond _ rfl (fun hpos => ?_) (fun hpos => ?_)
    · have hpos : 0 < n := by simpa using hpos
      refine twp_region ?_
      refine s_rd _ rfl (mv_d (.inl rfl) rfl) ?_
      refine s_rd _ rfl (mv_d (.inl rfl) rfl) ?_
      refine s_rd _ rfl (cap_nil rfl sel29 rfl) ?_
      refine s_rd _ rfl (cut_nil rfl sel29 rfl rfl rfl) ?_
      refine s_rd _ rfl (mv_d (.inl rfl) rfl) ?_
      refine s_zeros (n := n) rfl sel29 Try.underlying3 zero31 rfl rfl rfl hpos (by decide) (by omega) (by omega) ?_
      refine s_rd _ rfl (mv_d (.inl rfl) rfl) ?_
      refine s_rd _ rfl (len_nil rfl sel29 rfl) ?_
      refine s_rd _ rfl (rd_cut_msl 0 4 48 0 n 0 0 rfl sel29 rfl rfl rfl (Nat.le_refl _) (Nat.zero_le _)) ?_
      refine s_rd _ rfl (mv_msl (.inr rfl) rfl) ?_
      refine tops_nil ?_
      refine way_then ?_
      refine twp_norm [0] (sub_msl rfl .nil) (blk_flat rfl (blk_nil rfl)) ?_
      refine twp_rseq ?_
      refine s_rd _ rfl (mv_msl (.inl rfl) rfl) ?_
      refine s_rd _ rfl (mv_msl (.inr rfl) rfl) ?_
      refine tops_nil ?_
      refine twp_norm [4] (sub_msl rfl .nil) (blk_flat rfl (blk_nil rfl)) ?_
      refine twp_ret ?_
      exact ⟨_, [0], res rfl, by decide, fun i hi => absurd hi (Nat.not_lt_zero i), rfl, rfl⟩
    · refine twp_upgrade 0 31 4 rfl ?_
      refine twp_skip ?_
      refine way_then ?_
      refine twp_norm [0] (sub_msl rfl .nil) (blk_flat rfl (blk_nil rfl)) ?_
      refine twp_rseq ?_
      refine s_rd _ rfl (mv_msl (.inl rfl) rfl) ?_
      refine s_rd _ rfl (mv_msl (.inr rfl) rfl) ?_
      refine tops_nil ?_
      refine twp_norm [4] (sub_msl rfl .nil) (blk_flat rfl (blk_nil rfl)) ?_
      refine twp_ret ?_
      exact ⟨_, [0], res rfl, by decide, fun i hi => absurd hi (Nat.not_lt_zero i), rfl, rfl⟩

theorem slices_Concat_PossessionConcat (xss : List (List Possession)) (hn : xss.length ≤ 1000) (ht : xss.flatten.length ≤ 1000000000) (mv : Nat → Bool) : Ret Try.prog 30 [] mv ([.sl 1 (xss.map fun l => .sl 4 (l.map Possession.enc))].map .d) (.msl 0 4 0 xss.flatten.length) [.flat 31 4 (xss.flatten.map Possession.enc)] := by
  refine ret_body callB30 Try.func30 rfl Try.ntmps30 rfl rfl (fun wX gX => ?_)
  refine twp_norm [0] (sub_d rfl .nil) (blk_nil rfl) ?_
  refine twp_rseq ?_
  refine s_rd _ rfl (mv_d (.inr rfl) rfl) ?_
  refine tops_nil ?_
  refine twp_norm [0] (sub_d rfl .nil) (blk_nil rfl) ?_
  refine twp_rseq ?_
  refine s_rd _ rfl (mv_d (.inr rfl) rfl) ?_
  refine tops_nil ?_
  refine twp_norm [0, 3] (sub_d rfl (sub_d rfl .nil)) (blk_nil rfl) ?_
  refine twp_seq ?_
  refine twp_rseq ?_
  refine s_rd _ rfl (mv_d (.inl rfl) rfl) ?_
  refine s_rd _ rfl (by first | exact len_d rfl sel89 rfl (by first | exact List.length_map _ | rfl) | exact len_nil rfl sel89 rfl) ?_
  refine s_rd _ rfl (mv_d (.inl rfl) rfl) ?_
  refine tops_nil ?_
  refine twp_norm [0, 3, 9, 10, 11] (sub_d rfl (sub_d rfl (sub_d rfl (sub_d rfl (sub_d rfl .nil))))) (blk_nil rfl) ?_
  refine twp_block ?_
  refine twp_whileK (fun i => ([(3, .d (.int .i64 ((flatTo xss i).length : Int))), (11, .d (.int .i64 ((i : Nat) : Int)))] : Fr)) (fun i => ([] : List (Nat × Blk))) (fun i => i ≤ xss.length) (fun i => xss.length - i) [3, 11] [0, 9, 10] [] 0 (by decide) (fun i hi => absurd hi (Nat.not_lt_zero i)) (Nat.zero_le _) (sub_d rfl (sub_d rfl (sub_d rfl .nil))) rfl (by rw [flat_zero]; rfl) (blk_nil rfl) rfl ?_
  rintro i hok
  refine twp_norm [3, 11, 0, 9, 10] (sub_d rfl (sub_d rfl (sub_d rfl (sub_d rfl (sub_d rfl .nil))))) (blk_nil rfl) ?_
  refine twp_rseq ?_
  refine s_rd _ rfl (cmp_int rfl rfl rfl rfl) ?_
  refine tops_nil ?_
  refine twp_norm [0, 3, 9, 10, 11, 12] (sub_d rfl (sub_d rfl (sub_d rfl (sub_d rfl (sub_d rfl (sub_d rfl .nil)))))) (blk_nil rfl) ?_
  refine twp_seq ?_
  refine twp_cond _ rfl (fun hlt => ?_) (fun hlt => ?_)
  · have hlt : i < xss.length := by simpa using hlt
    obtain ⟨x, hx⟩ : ∃ x, (xss)[i]? = some x := ⟨_, List.getElem?_eq_getElem (by first | exact hlt | omega | (simp; omega))⟩
    have hs := flat_succ hx
    have hle := flat_le xss (i + 1)
    refine twp_skip ?_
    refine way_then ?_
    refine twp_norm [0, 3, 9, 10, 11] (sub_d rfl (sub_d rfl (sub_d rfl (sub_d rfl (sub_d rfl .nil))))) (blk_nil rfl) ?_
    refine twp_seq ?_
    refine twp_block ?_
    refine twp_rseq ?_
    refine s_rd _ rfl (index_sl rfl sel89 rfl rfl (idx_map hx)) ?_
    refine s_rd _ rfl (load_ptr rfl lay29 rfl rfl) ?_
    refine s_rd _ rfl (mv_d (.inr rfl) rfl) ?_
    refine tops_nil ?_
    refine twp_norm [0, 3, 5, 9, 10, 11] (sub_d rfl (sub_d rfl (sub_d rfl (sub_d rfl (sub_d rfl (sub_d rfl .nil)))))) (blk_nil rfl) ?_
    refine twp_rseq ?_
    refine s_rd _ rfl (mv_d (.inl rfl) rfl) ?_
    refine s_rd _ rfl (mv_d (.inl rfl) rfl) ?_
    refine s_rd _ rfl (by first | exact len_d rfl sel29 rfl (by first | exact List.length_map _ | rfl) | exact len_nil rfl sel29 rfl) ?_
    refine s_rd _ rfl (arith_to (r := ((flatTo xss (i + 1)).length : Int)) rfl rfl rfl rfl (by rw [hs]; simp) (by omega)) ?_
    refine s_rd _ rfl (mv_d (.inr rfl) rfl) ?_
    refine tops_nil ?_
    refine twp_norm [0, 3, 9, 10, 11] (sub_d rfl (sub_d rfl (sub_d rfl (sub_d rfl (sub_d rfl .nil))))) (blk_nil rfl) ?_
    refine twp_rseq ?_
    refine s_rd _ rfl (mv_d (.inl rfl) rfl) ?_
    refine s_rd _ rfl (cmp_int rfl rfl rfl rfl) ?_
    refine tops_nil ?_
    refine twp_norm [0, 3, 9, 10, 11, 20] (sub_d rfl (sub_d rfl (sub_d rfl (sub_d rfl (sub_d rfl (sub_d rfl .nil)))))) (blk_nil rfl) ?_
    refine twp_cond _ rfl (fun hneg => ?_) (fun hneg => ?_)
    · exact absurd (of_decide_eq_true hneg) (by omega)
    · refine twp_skip ?_
      refine way_block ?_
      refine way_then ?_
      refine twp_norm [0, 3, 9, 10, 11] (sub_d rfl (sub_d rfl (sub_d rfl (sub_d rfl (sub_d rfl .nil))))) (blk_nil rfl) ?_
      refine twp_region ?_
      refine s_rd _ rfl (arith_ok rfl rfl rfl rfl (by first | omega | (constructor <;> omega))) ?_
      refine s_rd _ rfl (mv_d (.inl rfl) rfl) ?_
      refine tops_nil ?_
      refine way_then ?_
      exact ⟨(i + 1), [], by decide, (fun i hi => absurd hi (Nat.not_lt_zero i)), (by omega), (by omega), rfl⟩
  · have hge : ¬ i < xss.length := by simpa using hlt
    have hi : i = xss.length := by omega
    refine twp_exit ?_
    refine way_thenExit ?_
    refine way_thenExit ?_
    refine way_here ?_
    refine way_then ?_
    refine twp_norm [0, 3] (sub_d rfl (sub_d rfl .nil)) (blk_nil rfl) ?_
    refine twp_rseq ?_
    refine s_rd _ rfl (mv_d (.inl rfl) rfl) ?_
    refine s_callD rfl rfl rfl (slices_Concat_PossessionGrow _ (by have := flat_le xss i; omega) (fun _ => false)) rfl rfl ?_
    refine s_rd _ rfl (mv_msl (.inr rfl) rfl) ?_
    refine tops_nil ?_
    refine twp_norm [0, 6] (sub_d rfl (sub_msl rfl .nil)) (blk_flat rfl (blk_nil rfl)) ?_
    refine twp_seq ?_
    refine twp_rseq ?_
    refine s_rd _ rfl (mv_d (.inl rfl) rfl) ?_
    refine s_rd _ rfl (by first | exact len_d rfl sel89 rfl (by first | exact List.length_map _ | rfl) | exact len_nil rfl sel89 rfl) ?_
    refine s_rd _ rfl (mv_d (.inl rfl) rfl) ?_
    refine tops_nil ?_
    refine twp_norm [6, 25, 26, 27] (sub_msl rfl (sub_d rfl (sub_d rfl (sub_d rfl .nil)))) (blk_flat rfl (blk_nil rfl)) ?_
    refine twp_block ?_
    refine twp_whileK (fun i => ([(6, .msl 0 4 0 (flatTo xss i).length), (27, .d (.int .i64 ((i : Nat) : Int)))] : Fr)) (fun i => ([(0, .flat 31 4 ((flatTo xss i).map Possession.enc))] : List (Nat × Blk))) (fun i => i ≤ xss.length) (fun i => xss.length - i) [6, 27] [25, 26] [0] 0 (by decide) (fun i hi => absurd hi (Nat.not_lt_zero i)) (Nat.zero_le _) (sub_d rfl (sub_d rfl .nil)) rfl (by rw [flat_zero]; rfl) (blk_flat rfl (blk_nil rfl)) (by rw [flat_zero]; rfl) ?_
    rintro i hok
    refine twp_norm [6, 27, 25, 26] (sub_msl rfl (sub_d rfl (sub_d rfl (sub_d rfl .nil)))) (blk_flat rfl (blk_nil rfl)) ?_
    refine twp_rseq ?_
    refine s_rd _ rfl (cmp_int rfl rfl rfl rfl) ?_
    refine tops_nil ?_
    refine twp_norm [6, 25, 26, 27, 28] (sub_msl rfl (sub_d rfl (sub_d rfl (sub_d rfl (sub_d rfl .nil))))) (blk_flat rfl (blk_nil rfl)) ?_
    refine twp_seq ?_
    refine twp_cond _ rfl (fun hlt => ?_) (fun hlt => ?_)
    · have hlt : i < xss.length := by simpa using hlt
      obtain ⟨x, hx⟩ : ∃ x, (xss)[i]? = some x := ⟨_, List.getElem?_eq_getElem (by first | exact hlt | omega | (simp; omega))⟩
      have hs := flat_succ hx
      have hle := flat_le xss (i + 1)
      have hsl : (flatTo xss (i + 1)).length = (flatTo xss i).length + x.length := by rw [hs]; simp
      refine twp_skip ?_
      refine way_then ?_
      refine twp_norm [6, 25, 26, 27] (sub_msl rfl (sub_d rfl (sub_d rfl (sub_d rfl .nil)))) (blk_flat rfl (blk_nil rfl)) ?_
      refine twp_seq ?_
      refine twp_block ?_
      refine twp_rseq ?_
      refine s_rd _ rfl (index_sl rfl sel89 rfl rfl (idx_map hx)) ?_
      refine s_rd _ rfl (load_ptr rfl lay29 rfl rfl) ?_
      refine s_rd _ rfl (mv_d (.inr rfl) rfl) ?_
      refine tops_nil ?_
      refine twp_norm [6, 8, 25, 26, 27] (sub_msl rfl (sub_d rfl (sub_d rfl (sub_d rfl (sub_d rfl .nil))))) (blk_flat rfl (blk_nil rfl)) ?_
      refine twp_region ?_
      refine s_rd _ rfl (mv_msl (.inl rfl) rfl) ?_
      refine s_rd _ rfl (mv_d (.inl rfl) rfl) ?_
      refine s_append (m := (flatTo xss (i + 1)).length) (ds := x.map Possession.enc) (es' := (flatTo xss (i + 1)).map Possession.enc) rfl sel29 zero31 rfl rfl rfl (by simp) (fun h => absurd h (Nat.not_lt_zero _)) rfl ⟨rfl, (by first | rfl | (simp [List.map_take, List.map_drop]; done) | (rw [← List.map_drop, List.take_of_length_le (by simp)]))⟩ (by rw [hs]; simp) (by simp; omega) (by omega) (by omega) rfl rfl ?_
      refine s_rd _ rfl (mv_msl (.inr rfl) rfl) ?_
      refine tops_nil ?_
      refine way_block ?_
      refine way_then ?_
      refine twp_norm [6, 25, 26, 27] (sub_msl rfl (sub_d rfl (sub_d rfl (sub_d rfl .nil)))) (blk_flat rfl (blk_nil rfl)) ?_
      refine twp_region ?_
      refine s_rd _ rfl (arith_ok rfl rfl rfl rfl (by first | omega | (constructor <;> omega))) ?_
      refine s_rd _ rfl (mv_d (.inl rfl) rfl) ?_
      refine tops_nil ?_
      refine way_then ?_
      exact ⟨(i + 1), [0], by decide, (fun i hi => absurd hi (Nat.not_lt_zero i)), (by omega), (by omega), rfl⟩
    · have hge : ¬ i < xss.length := by simpa using hlt
      have hi : i = xss.length := by omega
      have hall := flat_all hge
      refine twp_exit ?_
      refine way_thenExit ?_
      refine way_thenExit ?_
      refine way_here ?_
      refine way_then ?_
      refine twp_norm [6] (sub_msl rfl .nil) (blk_flat rfl (blk_nil rfl)) ?_
      refine twp_rseq ?_
      refine s_rd _ rfl (mv_msl (.inl rfl) rfl) ?_
      refine s_rd _ rfl (mv_msl (.inr rfl) rfl) ?_
      refine tops_nil ?_
      refine twp_norm [2] (sub_msl rfl .nil) (blk_flat rfl (blk_nil rfl)) ?_
      refine twp_ret ?_
      rw [hall]
      exact ⟨_, [0], res rfl, by decide, fun i hi => absurd hi (Nat.not_lt_zero i), rfl, rfl⟩

theorem slices_Concat_Possession_c {p0 : List (List Possession)} {r : List Possession} (hm : slices_Concat_Possession p0 = some r) : RetN Try.prog 30 [.sl 1 (p0.map (fun l => D.sl 4 (l.map Possession.enc)))] (.sl 4 (r.map Possession.enc)) := by
  unfold slices_Concat_Possession at hm
  obtain ⟨g, hm⟩ := guard_inv hm
  obtain rfl := Option.some.inj hm
  exact .flat (slices_Concat_PossessionConcat p0 g.1 g.2 (fun _ => false)) (by rw [List.length_map]) (fun e he => by obtain ⟨x, _, rfl⟩ := List.mem_map.1 he; rfl)

theorem possession_Take_c {p0 : Table} {p1 : Inter} {p2 : (List Possession)} {p3 : Possession} {r0 : (List Possession)} {r1 : Int} (hm : possession_Take p0 p1 p2 p3 = some (r0, r1)) : RetT Try.prog 11 [p0.enc, p1.enc, .sl 4 (p2.map Possession.enc), p3.enc] [.sl 4 (r0.map Possession.enc), .int .i64 r1] := by
  refine .of (mv := fun _ => false) (ret_bodyT callB11 Try.func11 rfl Try.ntmps11 rfl rfl (fun wX gX => ?_))
  unfold possession_Take at hm
  refine w_norm [0, 1, 2, 3] rfl rfl ?_
  refine twp_rseq ?_
  refine s_bx 0 rfl rfl rfl ?_
  refine s_bx 1 rfl rfl rfl ?_
  refine s_bx 2 rfl rfl rfl ?_
  iterate 2 (refine s_a tab_ok rfl ?_)
  refine tops_nil ?_
  refine w_norm [2, 4, 5, 7] rfl rfl ?_
  refine twp_seq ?_
  refine w_joinM hm (fun x1 => ([(44, .d (.bool (x1)))] : Fr)) (fun x1 => ([] : List (Nat × Blk))) [44] [2, 4, 5, 7] rfl (fun z2 hm => ?_) (fun x1 hm => ?_)
  · refine twp_region ?_
    refine s_a tab_ok rfl ?_
    obtain ⟨r3, hr3, hm⟩ := bind_inv hm
    refine s_x rfl rfl (rd_callRN rfl rfl (snaps_cons (.d _) snaps_nil) (table_Check_c hr3)) ?_
    refine s_a tab_ok rfl ?_
    refine s_b tab_ok rfl (fun q4 hq4 => ?_)
    cases q4
    · replace hm := iteN_F hq4 hm
      iterate 4 (refine s_a tab_ok rfl ?_)
      refine s_b tab_ok rfl (fun q5 hq5 => ?_)
      cases q5
      · replace hm := ite_F hq5 hm
        iterate 6 (refine s_a tab_ok rfl ?_)
        refine s_b tab_ok rfl (fun q6 hq6 => ?_)
        cases q6
        · replace hm := ite_F hq6 hm
          iterate 4 (refine s_a tab_ok rfl ?_)
          refine s_b tab_ok rfl (fun q7 hq7 => ?_)
          cases q7
          · replace hm := ite_F hq7 hm
            iterate 4 (refine s_a tab_ok rfl ?_)
            refine s_b tab_ok rfl (fun q8 hq8 => ?_)
            cases q8
            · replace hm := ite_F hq8 hm
              iterate 6 (refine s_a tab_ok rfl ?_)
              refine tops_nil ?_
              refine way_then ?_
              exact ⟨_, [0, 1, 2], (Option.some.inj hm).symm, rfl, k0, rfl⟩
            · replace hm := ite_T hq8 hm
              iterate 6 (refine s_a tab_ok rfl ?_)
              refine tops_nil ?_
              refine way_then ?_
              exact ⟨_, [0, 1, 2], (Option.some.inj hm).symm, rfl, k0, rfl⟩
          · replace hm := ite_T hq7 hm
            iterate 11 (refine s_a tab_ok rfl ?_)
            refine tops_nil ?_
            refine way_then ?_
            exact ⟨_, [0, 1, 2], (Option.some.inj hm).symm, rfl, k0, rfl⟩
        · replace hm := ite_T hq6 hm
          iterate 16 (refine s_a tab_ok rfl ?_)
          refine tops_nil ?_
          refine way_then ?_
          exact ⟨_, [0, 1, 2], (Option.some.inj hm).symm, rfl, k0, rfl⟩
      · replace hm := ite_T hq5 hm
        iterate 23 (refine s_a tab_ok rfl ?_)
        refine tops_nil ?_
        refine way_then ?_
        exact ⟨_, [0, 1, 2], (Option.some.inj hm).symm, rfl, k0, rfl⟩
    · replace hm := iteN_T hq4 hm
      iterate 28 (refine s_a tab_ok rfl ?_)
      refine tops_nil ?_
      refine way_then ?_
      exact ⟨_, [0, 1, 2], (Option.some.inj hm).symm, rfl, k0, rfl⟩
  · refine w_norm [2, 4, 5, 7, 44] rfl rfl ?_
    refine twp_cond _ rfl (fun h9 => ?_) (fun h9 => ?_)
    · replace hm := iteB_T h9 hm
      refine twp_rseq ?_
      iterate 2 (refine s_a tab_ok rfl ?_)
      refine tops_nil ?_
      refine c_wk 8 [some 4] rfl ?_
      refine w_norm [8, 9] rfl rfl ?_
      refine twp_ret ?_
      refine way_thenRet ?_
      obtain ⟨rfl, rfl⟩ := Prod.mk.inj (Option.some.inj hm)
      exact EndsT.two rfl (.d _) (.refl _) (.d _) (.refl _)
    · replace hm := iteB_F h9 hm
      refine twp_skip ?_
      refine way_then ?_
      refine w_norm [2, 4, 5, 7] rfl rfl ?_
      refine twp_seq ?_
      refine twp_hole ?_
      refine twp_dseq follows  ?_
      refine d_a [] tab_ok rfl ?_
      obtain ⟨r10, hr10, hm⟩ := bind_inv hm
      refine d_wr [3] _ (.mmap 3) rfl (onE_A rfl) rfl (w_callB rfl rfl rfl rfl (possession_first_c hr10) (mapsTo_mem0 (fun _ => rfl) (fun _ => rfl)) (.inl ⟨rfl, rfl⟩) rfl) ?_
      refine d_a [] tab_ok rfl ?_
      refine d_a [2] tab_ok rfl ?_
      obtain ⟨g11, hm⟩ := guard_inv hm
      refine d_x [3] rfl rfl (x_look (keyF_int .i64) (D.int .i64) _ _ (0 : Int) rfl mty60 zero3 rfl rfl rfl rfl g11) ?_
      iterate 4 (refine d_a [] tab_ok rfl ?_)
      refine d_tail ?_ (by kernel_rfl)
      refine s_a tab_ok rfl ?_
      refine tops_nil ?_
      refine w_norm [2, 4, 5, 7, 11] rfl rfl ?_
      refine twp_rseq ?_
      refine s_a tab_ok rfl ?_
      refine tops_nil ?_
      refine w_norm [2, 4, 5, 7, 53] rfl rfl ?_
      refine twp_cond _ rfl (fun h12 => ?_) (fun h12 => ?_)
      · replace hm := iteB_T h12 hm
        refine twp_rseq ?_
        iterate 2 (refine s_a tab_ok rfl ?_)
        refine tops_nil ?_
        refine c_wk 8 [some 4] rfl ?_
        refine w_norm [8, 9] rfl rfl ?_
        refine twp_ret ?_
        refine way_thenRet ?_
        obtain ⟨rfl, rfl⟩ := Prod.mk.inj (Option.some.inj hm)
        exact EndsT.two rfl (.d _) (.refl _) (.d _) (.refl _)
      · replace hm := iteB_F h12 hm
        refine twp_skip ?_
        refine way_then ?_
        refine w_norm [2, 4, 5, 7] rfl rfl ?_
        refine twp_seq ?_
        refine twp_rseq ?_
        refine s_a tab_ok rfl ?_
        refine s_x rfl rfl (x_len tab_ok rfl rfl rfl) ?_
        refine s_a tab_ok rfl ?_
        refine tops_nil ?_
        refine w_norm [2, 4, 5, 7, 56] rfl rfl ?_
        refine twp_cond _ rfl (fun h13 => ?_) (fun h13 => ?_)
        · replace hm := ite_T h13 hm
          refine twp_rseq ?_
          iterate 2 (refine s_a tab_ok rfl ?_)
          refine tops_nil ?_
          refine c_wk 8 [some 4] rfl ?_
          refine w_norm [8, 9] rfl rfl ?_
          refine twp_ret ?_
          refine way_thenRet ?_
          obtain ⟨rfl, rfl⟩ := Prod.mk.inj (Option.some.inj hm)
          exact EndsT.two rfl (.d _) (.refl _) (.d _) (.refl _)
        · replace hm := ite_F h13 hm
          refine twp_skip ?_
          refine way_then ?_
          refine w_norm [2, 4, 5, 7] rfl rfl ?_
          refine twp_seq ?_
          refine twp_rseq ?_
          iterate 4 (refine s_a tab_ok rfl ?_)
          obtain ⟨r14, hr14, hm⟩ := bind_inv hm
          refine s_x rfl rfl (rd_callRN rfl rfl (snaps_cons (.d _) (snaps_cons (.d _) (snaps_cons (.d _) snaps_nil))) (possession_locked_c hr14)) ?_
          refine tops_nil ?_
          refine w_norm [2, 7, 61] rfl rfl ?_
          refine twp_cond _ rfl (fun h15 => ?_) (fun h15 => ?_)
          · replace hm := iteB_T h15 hm
            refine twp_rseq ?_
            iterate 2 (refine s_a tab_ok rfl ?_)
            refine tops_nil ?_
            refine c_wk 8 [some 4] rfl ?_
            refine w_norm [8, 9] rfl rfl ?_
            refine twp_ret ?_
            refine way_thenRet ?_
            obtain ⟨rfl, rfl⟩ := Prod.mk.inj (Option.some.inj hm)
            exact EndsT.two rfl (.d _) (.refl _) (.d _) (.refl _)
          · replace hm := iteB_F h15 hm
            refine twp_skip ?_
            refine way_then ?_
            refine w_norm [2, 7] rfl rfl ?_
            refine c_frz 2 rfl rfl rfl rfl ?_
            refine twp_rseq ?_
            iterate 2 (refine s_a tab_ok rfl ?_)
            obtain ⟨r16, hr16, hm⟩ := bind_inv hm
            refine s_x rfl rfl (rd_callRN rfl rfl (snaps_cons (.d _) (snaps_cons (.d _) snaps_nil)) (slices_IndexFunc_Possession_c (fun _ r h => ⟨29, _, rfl, (possession_Take_c1_c h).retD⟩) hr16)) ?_
            refine s_a tab_ok rfl ?_
            refine tops_nil ?_
            refine w_norm [2, 7, 12] rfl rfl ?_
            refine w_joinM hm (fun x17 => ([(12, .d (.int .i64 x17))] : Fr)) (fun x17 => ([] : List (Nat × Blk))) [12] [2, 7] rfl (fun z18 hm => ?_) (fun x17 hm => ?_)
            · refine twp_rseq ?_
              iterate 2 (refine s_a tab_ok rfl ?_)
              refine tops_nil ?_
              refine w_norm [2, 7, 12, 66] rfl rfl ?_
              refine twp_cond _ rfl (fun h19 => ?_) (fun h19 => ?_)
              · replace hm := ite_T h19 hm
                refine twp_region ?_
                refine s_a tab_ok rfl ?_
                refine s_x rfl rfl (x_len tab_ok rfl rfl rfl) ?_
                refine s_a tab_ok rfl ?_
                refine tops_nil ?_
                refine way_then ?_
                exact ⟨_, [0, 1, 2, 3], (Option.some.inj hm).symm, rfl, k0, rfl⟩
              · replace hm := ite_F h19 hm
                refine twp_skip ?_
                refine way_then ?_
                exact ⟨_, [0, 1, 2, 3], (Option.some.inj hm).symm, rfl, k0, rfl⟩
            · refine w_norm [2, 7, 12] rfl rfl ?_
              refine twp_dseq follows  ?_
              iterate 2 (refine d_a [0, 1, 2, 3] tab_ok rfl ?_)
              obtain ⟨g20, hm⟩ := guard_inv hm
              refine d_x [0, 1, 2, 3] rfl rfl (x_cut tab_ok rfl rfl rfl rfl rfl g20) ?_
              refine d_a [0, 1, 2, 3] tab_ok rfl ?_
              refine d_x [0, 1, 2, 3] rfl rfl (x_lit [.tmp 72] tab_ok rfl rfl zero31 rfl rfl rfl rfl rfl) ?_
              iterate 2 (refine d_a [0, 1, 2, 3] tab_ok rfl ?_)
              obtain ⟨g21, hm⟩ := guard_inv hm
              refine d_x [0, 1, 2, 3] rfl rfl (x_cut tab_ok rfl rfl rfl rfl rfl g21) ?_
              refine d_x [0, 1, 2, 3] rfl rfl (x_lit [.tmp 71, .tmp 73, .tmp 76] tab_ok rfl rfl zero29 rfl rfl rfl rfl rfl) ?_
              obtain ⟨r22, hr22, hm⟩ := bind_inv hm
              refine d_x [0, 1, 2, 3] rfl rfl (rd_callRN rfl rfl (snaps_cons (.d _) snaps_nil) (slices_Concat_Possession_c hr22)) ?_
              refine d_tail ?_ (by kernel_rfl)
              iterate 2 (refine s_a tab_ok rfl ?_)
              refine tops_nil ?_
              refine w_norm [8, 9] rfl rfl ?_
              refine twp_ret ?_
              obtain ⟨rfl, rfl⟩ := Prod.mk.inj (Option.some.inj hm)
              exact EndsT.two rfl (.d _) (.refl _) (.d _) (.refl _)

end Go.Proofs.Ythkgkolgdkcngaa
