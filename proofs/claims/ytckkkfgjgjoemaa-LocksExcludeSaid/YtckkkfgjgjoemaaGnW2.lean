/- The functions return what their models yield. No condition. -/
import Derived.Test.YtckkkfgjgjoemaaGnU
import Derived.Test.YtckkkfgjgjoemaaGnM
import Derived.Test.YtckkkfgjgjoemaaGnW1
set_option maxHeartbeats 400000
set_option linter.unusedSimpArgs false
set_option linter.unusedVariables false
set_option maxRecDepth 20000
namespace Go.Proofs.Ytckkkfgjgjoemaa
open Go Go.TL

theorem table_Check_c {p0 : Table} {r : Int} (hm : table_Check p0 = some r) : RetN Try.prog 47 [p0.enc] (.int .i64 r) := by
  refine .unit (ret_bodyS callB47 Try.func47 rfl Try.ntmps47 rfl rfl (fun wX gX => ?_)) rfl
  unfold table_Check at hm
  refine w_norm [0] rfl rfl ?_
  refine twp_rseq ?_
  refine s_bx 0 rfl rfl rfl ?_
  refine s_a tab_ok rfl ?_
  refine tops_nil ?_
  refine w_norm [1] rfl rfl ?_
  refine twp_seq ?_
  refine w_joinM hm (fun x1 => ([(33, .d (.bool (x1)))] : Fr)) (fun x1 => ([] : List (Nat × Blk))) [33] [1] rfl (fun z2 hm => ?_) (fun x1 hm => ?_)
  · refine twp_region ?_
    iterate 2 (refine s_a tab_ok rfl ?_)
    refine s_x rfl rfl (x_len tab_ok rfl rfl rfl) ?_
    refine s_a tab_ok rfl ?_
    refine s_b tab_ok rfl (fun q3 hq3 => ?_)
    cases q3
    · replace hm := ite_F hq3 hm
      iterate 2 (refine s_a tab_ok rfl ?_)
      refine s_x rfl rfl (x_len tab_ok rfl rfl rfl) ?_
      iterate 2 (refine s_a tab_ok rfl ?_)
      refine s_b tab_ok rfl (fun q4 hq4 => ?_)
      cases q4
      · replace hm := ite_F hq4 hm
        iterate 2 (refine s_a tab_ok rfl ?_)
        obtain ⟨r5, hr5, hm⟩ := bind_inv hm
        refine s_x rfl rfl (rd_callRN rfl rfl (snaps_cons (.d _) (snaps_cons (.d _) snaps_nil)) (table_within_c hr5)) ?_
        iterate 2 (refine s_a tab_ok rfl ?_)
        refine s_b tab_ok rfl (fun q6 hq6 => ?_)
        cases q6
        · replace hm := iteB_F hq6 hm
          iterate 2 (refine s_a tab_ok rfl ?_)
          obtain ⟨r7, hr7, hm⟩ := bind_inv hm
          refine s_x rfl rfl (rd_callRN rfl rfl (snaps_cons (.d _) (snaps_cons (.d _) snaps_nil)) (table_within_c hr7)) ?_
          iterate 2 (refine s_a tab_ok rfl ?_)
          refine tops_nil ?_
          refine way_then ?_
          exact ⟨_, [0], (Option.some.inj hm).symm, rfl, k0, rfl⟩
        · replace hm := iteB_T hq6 hm
          iterate 5 (refine s_a tab_ok rfl ?_)
          refine tops_nil ?_
          refine way_then ?_
          exact ⟨_, [0], (Option.some.inj hm).symm, rfl, k0, rfl⟩
      · replace hm := ite_T hq4 hm
        iterate 11 (refine s_a tab_ok rfl ?_)
        refine tops_nil ?_
        refine way_then ?_
        exact ⟨_, [0], (Option.some.inj hm).symm, rfl, k0, rfl⟩
    · replace hm := ite_T hq3 hm
      iterate 17 (refine s_a tab_ok rfl ?_)
      refine tops_nil ?_
      refine way_then ?_
      exact ⟨_, [0], (Option.some.inj hm).symm, rfl, k0, rfl⟩
  · refine w_norm [1, 33] rfl rfl ?_
    refine twp_cond _ rfl (fun h8 => ?_) (fun h8 => ?_)
    · replace hm := iteB_T h8 hm
      refine twp_rseq ?_
      refine s_a tab_ok rfl ?_
      refine tops_nil ?_
      refine w_norm [2] rfl rfl ?_
      refine twp_ret ?_
      refine way_thenRet ?_
      obtain rfl := Option.some.inj hm
      exact EndsS.one _ rfl (.d _) (.refl _)
    · replace hm := iteB_F h8 hm
      refine twp_skip ?_
      refine way_then ?_
      refine w_norm [1] rfl rfl ?_
      refine twp_seq ?_
      refine twp_rseq ?_
      refine s_a tab_ok rfl ?_
      obtain ⟨r9, hr9, hm⟩ := bind_inv hm
      refine s_x rfl rfl (rd_callRN rfl rfl (snaps_cons (.d _) snaps_nil) (table_pointsRight_c hr9)) ?_
      refine s_a tab_ok rfl ?_
      refine tops_nil ?_
      refine w_norm [1, 36] rfl rfl ?_
      refine twp_cond _ rfl (fun h10 => ?_) (fun h10 => ?_)
      · replace hm := iteB_T h10 hm
        refine twp_rseq ?_
        refine s_a tab_ok rfl ?_
        refine tops_nil ?_
        refine w_norm [2] rfl rfl ?_
        refine twp_ret ?_
        refine way_thenRet ?_
        obtain rfl := Option.some.inj hm
        exact EndsS.one _ rfl (.d _) (.refl _)
      · replace hm := iteB_F h10 hm
        refine twp_skip ?_
        refine way_then ?_
        refine w_norm [1] rfl rfl ?_
        refine w_joinS hm (fun _ => ([] : Fr)) (fun _ => ([] : List (Nat × Blk))) [] [1] rfl (fun z11 hm hz11 => ?_) (fun j hm => ?_)
        · refine twp_rseq ?_
          iterate 2 (refine s_a tab_ok rfl ?_)
          refine s_x rfl rfl (x_len tab_ok rfl rfl rfl) ?_
          refine s_a tab_ok rfl ?_
          refine tops_nil ?_
          refine w_norm [1, 38, 39, 40] rfl rfl ?_
          refine twp_block ?_
          refine w_loop hm (fun x13 => ([(40, .d (.int .i64 x13))] : Fr)) (fun x13 => ([] : List (Nat × Blk))) [40] [1, 38, 39] [0] rfl k0 rfl rfl rfl rfl rfl (fun x13 z14 hm hz14 => ?_)
          refine w_norm [1, 38, 39, 40] rfl rfl ?_
          refine twp_rseq ?_
          refine s_a tab_ok rfl ?_
          refine tops_nil ?_
          refine w_norm [1, 38, 39, 40, 41] rfl rfl ?_
          refine twp_seq ?_
          refine twp_cond _ rfl (fun h15 => ?_) (fun h15 => ?_)
          · replace hm := ite_T h15 hm
            refine twp_skip ?_
            refine way_then ?_
            refine w_norm [1, 38, 39, 40] rfl rfl ?_
            refine twp_seq ?_
            refine twp_block ?_
            refine twp_rseq ?_
            obtain ⟨e16, he16, hm⟩ := get_inv hm
            refine s_x rfl rfl (x_ix tab_ok rfl rfl rfl rfl he16) ?_
            refine s_a tab_ok rfl ?_
            refine s_al 1 rfl rfl zero48 rfl ?_
            refine s_wkb 1 [none, none, none, some 3, some 2, some 1, none, none, some 3, some 2, some 1, some 2, some 1, some 2] rfl rfl ?_
            refine s_a tab_ok rfl ?_
            refine tops_nil ?_
            refine w_norm [1, 4, 38, 39, 40] rfl rfl ?_
            refine twp_rseq ?_
            iterate 2 (refine s_a tab_ok rfl ?_)
            obtain ⟨r17, hr17, hm⟩ := bind_inv hm
            refine s_x rfl rfl (rd_callRN rfl rfl (snaps_cons (.d _) (snaps_cons (.d _) snaps_nil)) (table_routeRight_c hr17)) ?_
            refine s_a tab_ok rfl ?_
            refine tops_nil ?_
            refine w_norm [1, 38, 39, 40, 47] rfl rfl ?_
            refine twp_cond _ rfl (fun h18 => ?_) (fun h18 => ?_)
            · replace hm := iteB_T h18 hm
              refine twp_rseq ?_
              refine s_a tab_ok rfl ?_
              refine tops_nil ?_
              refine w_norm [2] rfl rfl ?_
              refine twp_ret ?_
              refine way_blockRet ?_
              refine way_thenRet ?_
              obtain ⟨v19, hm, hz⟩ := inr_inv hm
              rw [hz14 _ hz] at hm
              refine way_thenRet ?_
              refine way_blockRet ?_
              obtain ⟨v20, hm, hz⟩ := inr_inv hm
              rw [hz11 _ hz] at hm
              refine way_thenRet ?_
              obtain rfl := Option.some.inj hm
              exact EndsS.one _ rfl (.d _) (.refl _)
            · replace hm := iteB_F h18 hm
              refine twp_skip ?_
              refine way_block ?_
              refine way_then ?_
              refine w_norm [1, 38, 39, 40] rfl rfl ?_
              refine twp_region ?_
              obtain ⟨g21, hm⟩ := guard_inv hm
              refine s_x rfl rfl (x_ar rfl rfl rfl rfl g21) ?_
              refine s_a tab_ok rfl ?_
              refine tops_nil ?_
              refine way_then ?_
              exact ⟨_, [0], (Option.some.inj hm).symm, rfl, k0, rfl⟩
          · replace hm := ite_F h15 hm
            refine twp_exit ?_
            refine way_thenExit ?_
            obtain ⟨v22, hm, hz⟩ := inr_inv hm
            rw [hz14 _ hz] at hm
            refine way_thenExit ?_
            refine way_here ?_
            refine way_then ?_
            exact ⟨_, [0], (Option.some.inj hm).symm, rfl, k0, rfl⟩
        · refine w_norm [1] rfl rfl ?_
          refine w_joinS hm (fun _ => ([] : Fr)) (fun _ => ([] : List (Nat × Blk))) [] [1] rfl (fun z23 hm hz23 => ?_) (fun j hm => ?_)
          · refine twp_rseq ?_
            iterate 2 (refine s_a tab_ok rfl ?_)
            refine s_x rfl rfl (x_len tab_ok rfl rfl rfl) ?_
            refine s_a tab_ok rfl ?_
            refine tops_nil ?_
            refine w_norm [1, 50, 51, 52] rfl rfl ?_
            refine twp_block ?_
            refine w_loop hm (fun x25 => ([(52, .d (.int .i64 x25))] : Fr)) (fun x25 => ([] : List (Nat × Blk))) [52] [1, 50, 51] [0] rfl k0 rfl rfl rfl rfl rfl (fun x25 z26 hm hz26 => ?_)
            refine w_norm [1, 50, 51, 52] rfl rfl ?_
            refine twp_rseq ?_
            refine s_a tab_ok rfl ?_
            refine tops_nil ?_
            refine w_norm [1, 50, 51, 52, 53] rfl rfl ?_
            refine twp_seq ?_
            refine twp_cond _ rfl (fun h27 => ?_) (fun h27 => ?_)
            · replace hm := ite_T h27 hm
              refine twp_skip ?_
              refine way_then ?_
              refine w_norm [1, 50, 51, 52] rfl rfl ?_
              refine twp_seq ?_
              refine twp_block ?_
              refine twp_rseq ?_
              obtain ⟨e28, he28, hm⟩ := get_inv hm
              refine s_x rfl rfl (x_ix tab_ok rfl rfl rfl rfl he28) ?_
              refine s_a tab_ok rfl ?_
              refine s_al 1 rfl rfl zero48 rfl ?_
              refine s_wkb 1 [none, none, none, some 3, some 2, some 1, none, none, some 3, some 2, some 1, some 2, some 1, some 2] rfl rfl ?_
              refine s_a tab_ok rfl ?_
              refine tops_nil ?_
              refine w_norm [1, 6, 50, 51, 52] rfl rfl ?_
              refine w_joinM hm (fun x29 => ([(74, .d (.bool (x29)))] : Fr)) (fun x29 => ([] : List (Nat × Blk))) [74] [1, 50, 51, 52] rfl (fun z30 hm => ?_) (fun x29 hm => ?_)
              · refine twp_region ?_
                iterate 3 (refine s_a tab_ok rfl ?_)
                obtain ⟨r31, hr31, hm⟩ := bind_inv hm
                refine s_x rfl rfl (rd_callRN rfl rfl (snaps_cons (.d _) (snaps_cons (.d _) snaps_nil)) (table_settingsRight_c hr31)) ?_
                refine s_a tab_ok rfl ?_
                refine s_b tab_ok rfl (fun q32 hq32 => ?_)
                cases q32
                · replace hm := iteB_F hq32 hm
                  iterate 3 (refine s_a tab_ok rfl ?_)
                  obtain ⟨r33, hr33, hm⟩ := bind_inv hm
                  refine s_x rfl rfl (rd_callRN rfl rfl (snaps_cons (.d _) (snaps_cons (.d _) snaps_nil)) (table_settingsRight_c hr33)) ?_
                  iterate 2 (refine s_a tab_ok rfl ?_)
                  refine s_b tab_ok rfl (fun q34 hq34 => ?_)
                  cases q34
                  · replace hm := iteB_F hq34 hm
                    iterate 3 (refine s_a tab_ok rfl ?_)
                    obtain ⟨r35, hr35, hm⟩ := bind_inv hm
                    refine s_x rfl rfl (rd_callRN rfl rfl (snaps_cons (.d _) (snaps_cons (.d _) snaps_nil)) (table_settingsRight_c hr35)) ?_
                    iterate 2 (refine s_a tab_ok rfl ?_)
                    refine tops_nil ?_
                    refine way_then ?_
                    exact ⟨_, [0, 1], (Option.some.inj hm).symm, rfl, k0, rfl⟩
                  · replace hm := iteB_T hq34 hm
                    iterate 6 (refine s_a tab_ok rfl ?_)
                    refine tops_nil ?_
                    refine way_then ?_
                    exact ⟨_, [0, 1], (Option.some.inj hm).symm, rfl, k0, rfl⟩
                · replace hm := iteB_T hq32 hm
                  iterate 13 (refine s_a tab_ok rfl ?_)
                  refine tops_nil ?_
                  refine way_then ?_
                  exact ⟨_, [0, 1], (Option.some.inj hm).symm, rfl, k0, rfl⟩
              · refine w_norm [1, 50, 51, 52, 74] rfl rfl ?_
                refine twp_cond _ rfl (fun h36 => ?_) (fun h36 => ?_)
                · replace hm := iteB_T h36 hm
                  refine twp_rseq ?_
                  refine s_a tab_ok rfl ?_
                  refine tops_nil ?_
                  refine w_norm [2] rfl rfl ?_
                  refine twp_ret ?_
                  refine way_blockRet ?_
                  refine way_thenRet ?_
                  obtain ⟨v37, hm, hz⟩ := inr_inv hm
                  rw [hz26 _ hz] at hm
                  refine way_thenRet ?_
                  refine way_blockRet ?_
                  obtain ⟨v38, hm, hz⟩ := inr_inv hm
                  rw [hz23 _ hz] at hm
                  refine way_thenRet ?_
                  obtain rfl := Option.some.inj hm
                  exact EndsS.one _ rfl (.d _) (.refl _)
                · replace hm := iteB_F h36 hm
                  refine twp_skip ?_
                  refine way_block ?_
                  refine way_then ?_
                  refine w_norm [1, 50, 51, 52] rfl rfl ?_
                  refine twp_region ?_
                  obtain ⟨g39, hm⟩ := guard_inv hm
                  refine s_x rfl rfl (x_ar rfl rfl rfl rfl g39) ?_
                  refine s_a tab_ok rfl ?_
                  refine tops_nil ?_
                  refine way_then ?_
                  exact ⟨_, [0], (Option.some.inj hm).symm, rfl, k0, rfl⟩
            · replace hm := ite_F h27 hm
              refine twp_exit ?_
              refine way_thenExit ?_
              obtain ⟨v40, hm, hz⟩ := inr_inv hm
              rw [hz26 _ hz] at hm
              refine way_thenExit ?_
              refine way_here ?_
              refine way_then ?_
              exact ⟨_, [0], (Option.some.inj hm).symm, rfl, k0, rfl⟩
          · refine w_norm [1] rfl rfl ?_
            refine w_joinS hm (fun _ => ([] : Fr)) (fun _ => ([] : List (Nat × Blk))) [] [1] rfl (fun z41 hm hz41 => ?_) (fun j hm => ?_)
            · refine twp_rseq ?_
              iterate 2 (refine s_a tab_ok rfl ?_)
              refine s_x rfl rfl (x_len tab_ok rfl rfl rfl) ?_
              refine s_a tab_ok rfl ?_
              refine tops_nil ?_
              refine w_norm [1, 77, 78, 79] rfl rfl ?_
              refine twp_block ?_
              refine w_loop hm (fun x43 => ([(79, .d (.int .i64 x43))] : Fr)) (fun x43 => ([] : List (Nat × Blk))) [79] [1, 77, 78] [0] rfl k0 rfl rfl rfl rfl rfl (fun x43 z44 hm hz44 => ?_)
              refine w_norm [1, 77, 78, 79] rfl rfl ?_
              refine twp_rseq ?_
              refine s_a tab_ok rfl ?_
              refine tops_nil ?_
              refine w_norm [1, 77, 78, 79, 80] rfl rfl ?_
              refine twp_seq ?_
              refine twp_cond _ rfl (fun h45 => ?_) (fun h45 => ?_)
              · replace hm := ite_T h45 hm
                refine twp_skip ?_
                refine way_then ?_
                refine w_norm [1, 77, 78, 79] rfl rfl ?_
                refine twp_seq ?_
                refine twp_block ?_
                refine twp_rseq ?_
                obtain ⟨e46, he46, hm⟩ := get_inv hm
                refine s_x rfl rfl (x_ix tab_ok rfl rfl rfl rfl he46) ?_
                refine s_a tab_ok rfl ?_
                refine s_al 1 rfl rfl zero48 rfl ?_
                refine s_wkb 1 [none, none, none, some 3, some 2, some 1, none, none, some 3, some 2, some 1, some 2, some 1, some 2] rfl rfl ?_
                refine s_a tab_ok rfl ?_
                refine tops_nil ?_
                refine w_norm [1, 8, 77, 78, 79] rfl rfl ?_
                refine w_joinM hm (fun x47 => ([(104, .d (.bool (x47)))] : Fr)) (fun x47 => ([] : List (Nat × Blk))) [104] [1, 77, 78, 79] rfl (fun z48 hm => ?_) (fun x47 hm => ?_)
                · refine twp_region ?_
                  iterate 4 (refine s_a tab_ok rfl ?_)
                  obtain ⟨r49, hr49, hm⟩ := bind_inv hm
                  refine s_x rfl rfl (rd_callRN rfl rfl (snaps_cons (.d _) (snaps_cons (.d _) snaps_nil)) (conflict_Agree_c hr49)) ?_
                  refine s_a tab_ok rfl ?_
                  refine s_b tab_ok rfl (fun q50 hq50 => ?_)
                  cases q50
                  · replace hm := iteB_F hq50 hm
                    iterate 4 (refine s_a tab_ok rfl ?_)
                    obtain ⟨r51, hr51, hm⟩ := bind_inv hm
                    refine s_x rfl rfl (rd_callRN rfl rfl (snaps_cons (.d _) (snaps_cons (.d _) snaps_nil)) (conflict_Agree_c hr51)) ?_
                    iterate 2 (refine s_a tab_ok rfl ?_)
                    refine s_b tab_ok rfl (fun q52 hq52 => ?_)
                    cases q52
                    · replace hm := iteB_F hq52 hm
                      iterate 4 (refine s_a tab_ok rfl ?_)
                      obtain ⟨r53, hr53, hm⟩ := bind_inv hm
                      refine s_x rfl rfl (rd_callRN rfl rfl (snaps_cons (.d _) (snaps_cons (.d _) snaps_nil)) (conflict_Agree_c hr53)) ?_
                      iterate 2 (refine s_a tab_ok rfl ?_)
                      refine tops_nil ?_
                      refine way_then ?_
                      exact ⟨_, [0, 1], (Option.some.inj hm).symm, rfl, k0, rfl⟩
                    · replace hm := iteB_T hq52 hm
                      iterate 7 (refine s_a tab_ok rfl ?_)
                      refine tops_nil ?_
                      refine way_then ?_
                      exact ⟨_, [0, 1], (Option.some.inj hm).symm, rfl, k0, rfl⟩
                  · replace hm := iteB_T hq50 hm
                    iterate 15 (refine s_a tab_ok rfl ?_)
                    refine tops_nil ?_
                    refine way_then ?_
                    exact ⟨_, [0, 1], (Option.some.inj hm).symm, rfl, k0, rfl⟩
                · refine w_norm [1, 77, 78, 79, 104] rfl rfl ?_
                  refine twp_cond _ rfl (fun h54 => ?_) (fun h54 => ?_)
                  · replace hm := iteB_T h54 hm
                    refine twp_rseq ?_
                    refine s_a tab_ok rfl ?_
                    refine tops_nil ?_
                    refine w_norm [2] rfl rfl ?_
                    refine twp_ret ?_
                    refine way_blockRet ?_
                    refine way_thenRet ?_
                    obtain ⟨v55, hm, hz⟩ := inr_inv hm
                    rw [hz44 _ hz] at hm
                    refine way_thenRet ?_
                    refine way_blockRet ?_
                    obtain ⟨v56, hm, hz⟩ := inr_inv hm
                    rw [hz41 _ hz] at hm
                    refine way_thenRet ?_
                    obtain rfl := Option.some.inj hm
                    exact EndsS.one _ rfl (.d _) (.refl _)
                  · replace hm := iteB_F h54 hm
                    refine twp_skip ?_
                    refine way_block ?_
                    refine way_then ?_
                    refine w_norm [1, 77, 78, 79] rfl rfl ?_
                    refine twp_region ?_
                    obtain ⟨g57, hm⟩ := guard_inv hm
                    refine s_x rfl rfl (x_ar rfl rfl rfl rfl g57) ?_
                    refine s_a tab_ok rfl ?_
                    refine tops_nil ?_
                    refine way_then ?_
                    exact ⟨_, [0], (Option.some.inj hm).symm, rfl, k0, rfl⟩
              · replace hm := ite_F h45 hm
                refine twp_exit ?_
                refine way_thenExit ?_
                obtain ⟨v58, hm, hz⟩ := inr_inv hm
                rw [hz44 _ hz] at hm
                refine way_thenExit ?_
                refine way_here ?_
                refine way_then ?_
                exact ⟨_, [0], (Option.some.inj hm).symm, rfl, k0, rfl⟩
            · refine w_norm [1] rfl rfl ?_
              refine twp_rseq ?_
              refine s_makeMap 9 4 rfl ?_
              refine s_eq 106 (.mmap 1) rfl rfl ?_
              refine s_a tab_ok rfl ?_
              refine tops_nil ?_
              refine w_norm [1, 9] rfl rfl ?_
              refine w_joinS hm (fun m59 => ([] : Fr)) (fun m59 => ([(1, .map 9 4 (pairMap D.str D.bool m59))] : List (Nat × Blk))) [] [] rfl (fun z60 hm hz60 => ?_) (fun m59 hm => ?_)
              · refine twp_rseq ?_
                iterate 2 (refine s_a tab_ok rfl ?_)
                refine s_x rfl rfl (x_len tab_ok rfl rfl rfl) ?_
                refine s_a tab_ok rfl ?_
                refine tops_nil ?_
                refine w_norm [9, 108, 109, 110] rfl rfl ?_
                refine twp_block ?_
                refine w_loop hm (fun (x64, b65) => ([(110, .d (.int .i64 x64))] : Fr)) (fun (x64, b65) => ([(1, .map 9 4 (pairMap D.str D.bool b65))] : List (Nat × Blk))) [110] [9, 108, 109] [0, 1] rfl k0 rfl rfl rfl rfl rfl (fun s z66 hm hz66 => ?_)
                obtain ⟨x64, b65⟩ := s
                refine w_norm [9, 108, 109, 110] rfl rfl ?_
                refine twp_rseq ?_
                refine s_a tab_ok rfl ?_
                refine tops_nil ?_
                refine w_norm [9, 108, 109, 110, 111] rfl rfl ?_
                refine twp_seq ?_
                refine twp_cond _ rfl (fun h67 => ?_) (fun h67 => ?_)
                · replace hm := ite_T h67 hm
                  refine twp_skip ?_
                  refine way_then ?_
                  refine w_norm [9, 108, 109, 110] rfl rfl ?_
                  refine twp_seq ?_
                  refine twp_block ?_
                  refine twp_rseq ?_
                  obtain ⟨e68, he68, hm⟩ := get_inv hm
                  refine s_x rfl rfl (x_ix tab_ok rfl rfl rfl rfl he68) ?_
                  refine s_a tab_ok rfl ?_
                  refine s_al 2 rfl rfl zero48 rfl ?_
                  refine s_wkb 2 [none, none, none, some 3, some 2, some 1, none, none, some 3, some 2, some 1, some 2, some 1, some 2] rfl rfl ?_
                  refine s_a tab_ok rfl ?_
                  refine tops_nil ?_
                  refine w_norm [9, 11, 108, 109, 110] rfl rfl ?_
                  refine twp_seq ?_
                  refine twp_rseq ?_
                  iterate 3 (refine s_a tab_ok rfl ?_)
                  obtain ⟨g69, hm⟩ := guard_inv hm
                  refine s_x rfl rfl (x_look0 keyF_str D.bool _ _ false rfl mty86 zero4 rfl rfl rfl rfl g69) ?_
                  refine tops_nil ?_
                  refine w_norm [9, 11, 108, 109, 110, 117] rfl rfl ?_
                  refine twp_cond _ rfl (fun h70 => ?_) (fun h70 => ?_)
                  · replace hm := iteB_T h70 hm
                    refine twp_rseq ?_
                    refine s_a tab_ok rfl ?_
                    refine tops_nil ?_
                    refine w_norm [2] rfl rfl ?_
                    refine twp_ret ?_
                    refine way_thenRet ?_
                    refine way_blockRet ?_
                    refine way_thenRet ?_
                    obtain ⟨v71, hm, hz⟩ := inr_inv hm
                    rw [hz66 _ hz] at hm
                    refine way_thenRet ?_
                    refine way_blockRet ?_
                    obtain ⟨v72, hm, hz⟩ := inr_inv hm
                    rw [hz60 _ hz] at hm
                    refine way_thenRet ?_
                    obtain rfl := Option.some.inj hm
                    exact EndsS.one _ rfl (.d _) (.refl _)
                  · replace hm := iteB_F h70 hm
                    refine twp_skip ?_
                    refine way_then ?_
                    refine w_norm [9, 11, 108, 109, 110] rfl rfl ?_
                    refine twp_region ?_
                    iterate 3 (refine s_a tab_ok rfl ?_)
                    obtain ⟨g73, hm⟩ := guard_inv hm
                    refine s_putE keyF_str D.bool mty86 rfl rfl rfl rfl g73 ?_
                    refine tops_nil ?_
                    refine way_block ?_
                    refine way_then ?_
                    refine w_norm [9, 108, 109, 110] rfl rfl ?_
                    refine twp_region ?_
                    obtain ⟨g74, hm⟩ := guard_inv hm
                    refine s_x rfl rfl (x_ar rfl rfl rfl rfl g74) ?_
                    refine s_a tab_ok rfl ?_
                    refine tops_nil ?_
                    refine way_then ?_
                    exact ⟨_, [0, 1], (Option.some.inj hm).symm, rfl, k0, rfl⟩
                · replace hm := ite_F h67 hm
                  refine twp_exit ?_
                  refine way_thenExit ?_
                  obtain ⟨v75, hm, hz⟩ := inr_inv hm
                  rw [hz66 _ hz] at hm
                  refine way_thenExit ?_
                  refine way_here ?_
                  refine way_then ?_
                  exact ⟨_, [0, 1], (Option.some.inj hm).symm, rfl, k0, rfl⟩
              · refine w_norm [] rfl rfl ?_
                refine twp_rseq ?_
                refine s_a tab_ok rfl ?_
                refine tops_nil ?_
                refine w_norm [2] rfl rfl ?_
                refine twp_ret ?_
                obtain rfl := Option.some.inj hm
                exact EndsS.one _ rfl (.d _) (.refl _)

theorem locks_routeFits_c {p0 : RouteState} {p1 : Int} {r : Bool} (hm : locks_routeFits p0 p1 = some r) : RetN Try.prog 48 [p0.enc, .int .i64 p1] (.bool (r)) := by
  refine .unit (ret_bodyS callB48 Try.func48 rfl Try.ntmps48 rfl rfl (fun wX gX => ?_)) rfl
  unfold locks_routeFits at hm
  refine w_norm [0, 1] rfl rfl ?_
  refine twp_rseq ?_
  refine s_bx 0 rfl rfl rfl ?_
  refine s_a tab_ok rfl ?_
  refine tops_nil ?_
  refine w_norm [1, 2] rfl rfl ?_
  refine twp_seq ?_
  refine twp_rseq ?_
  iterate 2 (refine s_a tab_ok rfl ?_)
  refine tops_nil ?_
  refine w_norm [1, 2, 6] rfl rfl ?_
  refine twp_block ?_
  refine w_joinM hm (fun x1 => ([(7, .d (.bool (x1)))] : Fr)) (fun x1 => ([] : List (Nat × Blk))) [7] [1, 2, 6] rfl (fun z2 hm => ?_) (fun x1 hm => ?_)
  · refine twp_rseq ?_
    iterate 2 (refine s_a tab_ok rfl ?_)
    refine tops_nil ?_
    refine w_norm [1, 2, 6, 7] rfl rfl ?_
    refine twp_cond _ rfl (fun h3 => ?_) (fun h3 => ?_)
    · replace hm := ite_T h3 hm
      refine twp_skip ?_
      refine way_then ?_
      exact ⟨_, [0], (Option.some.inj hm).symm, rfl, k0, rfl⟩
    · replace hm := ite_F h3 hm
      refine twp_rseq ?_
      iterate 2 (refine s_a tab_ok rfl ?_)
      refine tops_nil ?_
      refine w_norm [1, 2, 6, 7] rfl rfl ?_
      refine twp_cond _ rfl (fun h4 => ?_) (fun h4 => ?_)
      · replace hm := ite_T h4 hm
        refine twp_skip ?_
        refine way_then ?_
        exact ⟨_, [0], (Option.some.inj hm).symm, rfl, k0, rfl⟩
      · replace hm := ite_F h4 hm
        refine twp_region ?_
        iterate 2 (refine s_a tab_ok rfl ?_)
        refine tops_nil ?_
        refine way_then ?_
        exact ⟨_, [0], (Option.some.inj hm).symm, rfl, k0, rfl⟩
  · refine w_norm [1, 2, 6, 7] rfl rfl ?_
    refine twp_cond _ rfl (fun h5 => ?_) (fun h5 => ?_)
    · replace hm := iteB_T h5 hm
      refine w_cut [(4, .d (.bool (((decide (p0.rel = (0 : Int))) && (decide (p0.timer = (0 : Int)))))))] [4] [] rfl ?_ ?_
      · refine twp_region ?_
        iterate 3 (refine s_a tab_ok rfl ?_)
        refine s_b tab_ok rfl (fun q6 hq6 => ?_)
        cases q6
        · iterate 5 (refine s_a tab_ok rfl ?_)
          refine tops_nil ?_
          refine way_then ?_
          exact ⟨[0], rfl, k0, st_eq (fr_cons (av_bool (by simp [hq6])) rfl) rfl⟩
        · iterate 5 (refine s_a tab_ok rfl ?_)
          refine tops_nil ?_
          refine way_then ?_
          exact ⟨[0], rfl, k0, st_eq (fr_cons (av_bool (by simp [hq6])) rfl) rfl⟩
      · refine w_norm [4] rfl rfl ?_
        refine twp_ret ?_
        refine way_blockRet ?_
        refine way_thenRet ?_
        obtain rfl := Option.some.inj hm
        exact EndsS.one _ rfl (.d _) (.refl _)
    · replace hm := iteB_F h5 hm
      refine twp_rseq ?_
      iterate 2 (refine s_a tab_ok rfl ?_)
      refine tops_nil ?_
      refine w_norm [1, 2, 6, 19] rfl rfl ?_
      refine twp_cond _ rfl (fun h7 => ?_) (fun h7 => ?_)
      · replace hm := ite_T h7 hm
        refine twp_seq ?_
        refine w_cut [(29, .d (.bool (((decide (p0.rel < (0 : Int))) || (decide (p1 ≤ p0.rel))))))] [29] [1, 2] rfl ?_ ?_
        · refine twp_region ?_
          iterate 3 (refine s_a tab_ok rfl ?_)
          refine s_b tab_ok rfl (fun q8 hq8 => ?_)
          cases q8
          · iterate 5 (refine s_a tab_ok rfl ?_)
            refine tops_nil ?_
            refine way_then ?_
            exact ⟨[0], rfl, k0, st_eq (fr_cons (av_bool (by simp [hq8])) rfl) rfl⟩
          · iterate 5 (refine s_a tab_ok rfl ?_)
            refine tops_nil ?_
            refine way_then ?_
            exact ⟨[0], rfl, k0, st_eq (fr_cons (av_bool (by simp [hq8])) rfl) rfl⟩
        · refine w_norm [1, 2, 29] rfl rfl ?_
          refine twp_cond _ rfl (fun h9 => ?_) (fun h9 => ?_)
          · replace hm := iteB_T h9 hm
            refine twp_rseq ?_
            refine s_a tab_ok rfl ?_
            refine tops_nil ?_
            refine w_norm [4] rfl rfl ?_
            refine twp_ret ?_
            refine way_thenRet ?_
            refine way_blockRet ?_
            refine way_thenRet ?_
            obtain rfl := Option.some.inj hm
            exact EndsS.one _ rfl (.d _) (.refl _)
          · replace hm := iteB_F h9 hm
            refine twp_skip ?_
            refine way_then ?_
            refine w_norm [1, 2] rfl rfl ?_
            refine w_joinM hm (fun x10 => ([(4, .d (.bool (x10)))] : Fr)) (fun x10 => ([] : List (Nat × Blk))) [4] [] rfl (fun z11 hm => ?_) (fun x10 hm => ?_)
            · refine twp_region ?_
              iterate 3 (refine s_a tab_ok rfl ?_)
              refine s_b tab_ok rfl (fun q12 hq12 => ?_)
              cases q12
              · replace hm := ite_F hq12 hm
                iterate 3 (refine s_a tab_ok rfl ?_)
                obtain ⟨g13, hm⟩ := guard_inv hm
                refine s_x rfl rfl (x_ar rfl rfl rfl rfl g13) ?_
                refine s_a tab_ok rfl ?_
                refine s_b tab_ok rfl (fun q14 hq14 => ?_)
                cases q14
                · replace hm := ite_F hq14 hm
                  iterate 11 (refine s_a tab_ok rfl ?_)
                  refine tops_nil ?_
                  refine way_then ?_
                  exact ⟨_, [0], (Option.some.inj hm).symm, rfl, k0, rfl⟩
                · replace hm := ite_T hq14 hm
                  iterate 4 (refine s_a tab_ok rfl ?_)
                  refine s_b tab_ok rfl (fun q15 hq15 => ?_)
                  cases q15
                  · replace hm := ite_F hq15 hm
                    iterate 6 (refine s_a tab_ok rfl ?_)
                    refine tops_nil ?_
                    refine way_then ?_
                    exact ⟨_, [0], (Option.some.inj hm).symm, rfl, k0, rfl⟩
                  · replace hm := ite_T hq15 hm
                    iterate 6 (refine s_a tab_ok rfl ?_)
                    refine tops_nil ?_
                    refine way_then ?_
                    exact ⟨_, [0], (Option.some.inj hm).symm, rfl, k0, rfl⟩
              · replace hm := ite_T hq12 hm
                iterate 17 (refine s_a tab_ok rfl ?_)
                refine tops_nil ?_
                refine way_then ?_
                exact ⟨_, [0], (Option.some.inj hm).symm, rfl, k0, rfl⟩
            · refine w_norm [4] rfl rfl ?_
              refine twp_ret ?_
              refine way_blockRet ?_
              refine way_thenRet ?_
              obtain rfl := Option.some.inj hm
              exact EndsS.one _ rfl (.d _) (.refl _)
      · replace hm := ite_F h7 hm
        refine twp_rseq ?_
        iterate 2 (refine s_a tab_ok rfl ?_)
        refine tops_nil ?_
        refine w_norm [1, 2, 50] rfl rfl ?_
        refine twp_cond _ rfl (fun h16 => ?_) (fun h16 => ?_)
        · replace hm := ite_T h16 hm
          refine w_cut [(4, .d (.bool (((decide ((0 : Int) ≤ p0.rel)) && ((decide (p0.rel < p1)) && ((decide ((0 : Int) ≤ p0.timer)) && (decide (p0.timer < (12 : Int)))))))))] [4] [] rfl ?_ ?_
          · refine twp_region ?_
            iterate 3 (refine s_a tab_ok rfl ?_)
            refine s_b tab_ok rfl (fun q17 hq17 => ?_)
            cases q17
            · iterate 16 (refine s_a tab_ok rfl ?_)
              refine tops_nil ?_
              refine way_then ?_
              exact ⟨[0], rfl, k0, st_eq (fr_cons (av_bool (by simp [hq17])) rfl) rfl⟩
            · iterate 5 (refine s_a tab_ok rfl ?_)
              refine s_b tab_ok rfl (fun q18 hq18 => ?_)
              cases q18
              · iterate 10 (refine s_a tab_ok rfl ?_)
                refine tops_nil ?_
                refine way_then ?_
                exact ⟨[0], rfl, k0, st_eq (fr_cons (av_bool (by simp [hq17, hq18])) rfl) rfl⟩
              · iterate 4 (refine s_a tab_ok rfl ?_)
                refine s_b tab_ok rfl (fun q19 hq19 => ?_)
                cases q19
                · iterate 5 (refine s_a tab_ok rfl ?_)
                  refine tops_nil ?_
                  refine way_then ?_
                  exact ⟨[0], rfl, k0, st_eq (fr_cons (av_bool (by simp [hq17, hq18, hq19])) rfl) rfl⟩
                · iterate 5 (refine s_a tab_ok rfl ?_)
                  refine tops_nil ?_
                  refine way_then ?_
                  exact ⟨[0], rfl, k0, st_eq (fr_cons (av_bool (by simp [hq17, hq18, hq19])) rfl) rfl⟩
          · refine w_norm [4] rfl rfl ?_
            refine twp_ret ?_
            refine way_blockRet ?_
            refine way_thenRet ?_
            obtain rfl := Option.some.inj hm
            exact EndsS.one _ rfl (.d _) (.refl _)
        · replace hm := ite_F h16 hm
          refine twp_skip ?_
          refine way_block ?_
          refine way_then ?_
          refine w_norm [] rfl rfl ?_
          refine twp_rseq ?_
          refine s_a tab_ok rfl ?_
          refine tops_nil ?_
          refine w_norm [4] rfl rfl ?_
          refine twp_ret ?_
          obtain rfl := Option.some.inj hm
          exact EndsS.one _ rfl (.d _) (.refl _)

theorem locks_fits_c {p0 : Table} {p1 : Inter} {r : Bool} (hm : locks_fits p0 p1 = some r) : RetN Try.prog 25 [p0.enc, p1.enc] (.bool (r)) := by
  refine .unit (ret_bodyS callB25 Try.func25 rfl Try.ntmps25 rfl rfl (fun wX gX => ?_)) rfl
  unfold locks_fits at hm
  refine w_norm [0, 1] rfl rfl ?_
  refine twp_rseq ?_
  refine s_bx 0 rfl rfl rfl ?_
  refine s_bx 1 rfl rfl rfl ?_
  refine s_a tab_ok rfl ?_
  refine tops_nil ?_
  refine w_norm [2, 3] rfl rfl ?_
  refine twp_seq ?_
  refine w_joinM hm (fun x1 => ([(29, .d (.bool (x1)))] : Fr)) (fun x1 => ([] : List (Nat × Blk))) [29] [2, 3] rfl (fun z2 hm => ?_) (fun x1 hm => ?_)
  · refine twp_region ?_
    refine s_a tab_ok rfl ?_
    obtain ⟨r3, hr3, hm⟩ := bind_inv hm
    refine s_x rfl rfl (rd_callRN rfl rfl (snaps_cons (.d _) snaps_nil) (table_Check_c hr3)) ?_
    refine s_a tab_ok rfl ?_
    refine s_b tab_ok rfl (fun q4 hq4 => ?_)
    cases q4
    · replace hm := iteN_F hq4 hm
      iterate 2 (refine s_a tab_ok rfl ?_)
      refine s_x rfl rfl (x_len tab_ok rfl rfl rfl) ?_
      iterate 2 (refine s_a tab_ok rfl ?_)
      refine s_x rfl rfl (x_len tab_ok rfl rfl rfl) ?_
      iterate 2 (refine s_a tab_ok rfl ?_)
      refine s_b tab_ok rfl (fun q5 hq5 => ?_)
      cases q5
      · replace hm := iteN_F hq5 hm
        iterate 2 (refine s_a tab_ok rfl ?_)
        refine s_x rfl rfl (x_len tab_ok rfl rfl rfl) ?_
        iterate 2 (refine s_a tab_ok rfl ?_)
        refine s_x rfl rfl (x_len tab_ok rfl rfl rfl) ?_
        iterate 2 (refine s_a tab_ok rfl ?_)
        refine tops_nil ?_
        refine way_then ?_
        exact ⟨_, [0, 1], (Option.some.inj hm).symm, rfl, k0, rfl⟩
      · replace hm := iteN_T hq5 hm
        iterate 8 (refine s_a tab_ok rfl ?_)
        refine tops_nil ?_
        refine way_then ?_
        exact ⟨_, [0, 1], (Option.some.inj hm).symm, rfl, k0, rfl⟩
    · replace hm := iteN_T hq4 hm
      iterate 17 (refine s_a tab_ok rfl ?_)
      refine tops_nil ?_
      refine way_then ?_
      exact ⟨_, [0, 1], (Option.some.inj hm).symm, rfl, k0, rfl⟩
  · refine w_norm [2, 3, 29] rfl rfl ?_
    refine twp_cond _ rfl (fun h6 => ?_) (fun h6 => ?_)
    · replace hm := iteB_T h6 hm
      refine twp_rseq ?_
      refine s_a tab_ok rfl ?_
      refine tops_nil ?_
      refine w_norm [4] rfl rfl ?_
      refine twp_ret ?_
      refine way_thenRet ?_
      obtain rfl := Option.some.inj hm
      exact EndsS.one _ rfl (.d _) (.refl _)
    · replace hm := iteB_F h6 hm
      refine twp_skip ?_
      refine way_then ?_
      refine w_norm [2, 3] rfl rfl ?_
      refine w_joinS hm (fun _ => ([] : Fr)) (fun _ => ([] : List (Nat × Blk))) [] [3] rfl (fun z7 hm hz7 => ?_) (fun j hm => ?_)
      · refine twp_rseq ?_
        iterate 2 (refine s_a tab_ok rfl ?_)
        refine s_x rfl rfl (x_len tab_ok rfl rfl rfl) ?_
        refine s_a tab_ok rfl ?_
        refine tops_nil ?_
        refine w_norm [2, 3, 31, 32, 33] rfl rfl ?_
        refine twp_block ?_
        refine w_loop hm (fun x9 => ([(33, .d (.int .i64 x9))] : Fr)) (fun x9 => ([] : List (Nat × Blk))) [33] [2, 3, 31, 32] [0, 1] rfl k0 rfl rfl rfl rfl rfl (fun x9 z10 hm hz10 => ?_)
        refine w_norm [2, 3, 31, 32, 33] rfl rfl ?_
        refine twp_rseq ?_
        refine s_a tab_ok rfl ?_
        refine tops_nil ?_
        refine w_norm [2, 3, 31, 32, 33, 34] rfl rfl ?_
        refine twp_seq ?_
        refine twp_cond _ rfl (fun h11 => ?_) (fun h11 => ?_)
        · replace hm := ite_T h11 hm
          refine twp_skip ?_
          refine way_then ?_
          refine w_norm [2, 3, 31, 32, 33] rfl rfl ?_
          refine twp_seq ?_
          refine twp_block ?_
          refine twp_rseq ?_
          refine s_a tab_ok rfl ?_
          obtain ⟨e12, he12, hm⟩ := get_inv hm
          refine s_x rfl rfl (x_ix tab_ok rfl rfl rfl rfl he12) ?_
          refine s_a tab_ok rfl ?_
          refine s_al 2 rfl rfl zero44 rfl ?_
          iterate 2 (refine s_a tab_ok rfl ?_)
          refine tops_nil ?_
          refine w_norm [2, 3, 5, 6, 31, 32, 33] rfl rfl ?_
          refine twp_dseq follows  ?_
          iterate 4 (refine d_a [0, 1, 2] tab_ok rfl ?_)
          obtain ⟨e13, he13, hm⟩ := get_inv hm
          refine d_x [0, 1, 2] rfl rfl (x_ix tab_ok rfl rfl rfl rfl he13) ?_
          iterate 2 (refine d_a [0, 1, 2] tab_ok rfl ?_)
          refine d_x [0, 1, 2] rfl rfl (x_len tab_ok rfl rfl rfl) ?_
          obtain ⟨r14, hr14, hm⟩ := bind_inv hm
          refine d_x [0, 1, 2] rfl rfl (rd_callRN rfl rfl (snaps_cons (.d _) (snaps_cons (.d _) snaps_nil)) (locks_routeFits_c hr14)) ?_
          refine d_a [0, 1, 2] tab_ok rfl ?_
          refine d_tail ?_ (by kernel_rfl)
          refine tops_nil ?_
          refine w_norm [2, 3, 31, 32, 33, 47] rfl rfl ?_
          refine twp_cond _ rfl (fun h15 => ?_) (fun h15 => ?_)
          · replace hm := iteB_T h15 hm
            refine twp_rseq ?_
            refine s_a tab_ok rfl ?_
            refine tops_nil ?_
            refine w_norm [4] rfl rfl ?_
            refine twp_ret ?_
            refine way_blockRet ?_
            refine way_thenRet ?_
            obtain ⟨v16, hm, hz⟩ := inr_inv hm
            rw [hz10 _ hz] at hm
            refine way_thenRet ?_
            refine way_blockRet ?_
            obtain ⟨v17, hm, hz⟩ := inr_inv hm
            rw [hz7 _ hz] at hm
            refine way_thenRet ?_
            obtain rfl := Option.some.inj hm
            exact EndsS.one _ rfl (.d _) (.refl _)
          · replace hm := iteB_F h15 hm
            refine twp_skip ?_
            refine way_block ?_
            refine way_then ?_
            refine w_norm [2, 3, 31, 32, 33] rfl rfl ?_
            refine twp_region ?_
            obtain ⟨g18, hm⟩ := guard_inv hm
            refine s_x rfl rfl (x_ar rfl rfl rfl rfl g18) ?_
            refine s_a tab_ok rfl ?_
            refine tops_nil ?_
            refine way_then ?_
            exact ⟨_, [0, 1], (Option.some.inj hm).symm, rfl, k0, rfl⟩
        · replace hm := ite_F h11 hm
          refine twp_exit ?_
          refine way_thenExit ?_
          obtain ⟨v19, hm, hz⟩ := inr_inv hm
          rw [hz10 _ hz] at hm
          refine way_thenExit ?_
          refine way_here ?_
          refine way_then ?_
          exact ⟨_, [0, 1], (Option.some.inj hm).symm, rfl, k0, rfl⟩
      · refine w_norm [3] rfl rfl ?_
        refine w_joinS hm (fun _ => ([] : Fr)) (fun _ => ([] : List (Nat × Blk))) [] [] rfl (fun z20 hm hz20 => ?_) (fun j hm => ?_)
        · refine twp_rseq ?_
          iterate 2 (refine s_a tab_ok rfl ?_)
          refine s_x rfl rfl (x_len tab_ok rfl rfl rfl) ?_
          refine s_a tab_ok rfl ?_
          refine tops_nil ?_
          refine w_norm [50, 51, 52] rfl rfl ?_
          refine twp_block ?_
          refine w_loop hm (fun x22 => ([(52, .d (.int .i64 x22))] : Fr)) (fun x22 => ([] : List (Nat × Blk))) [52] [50, 51] [0, 1] rfl k0 rfl rfl rfl rfl rfl (fun x22 z23 hm hz23 => ?_)
          refine w_norm [50, 51, 52] rfl rfl ?_
          refine twp_rseq ?_
          refine s_a tab_ok rfl ?_
          refine tops_nil ?_
          refine w_norm [50, 51, 52, 53] rfl rfl ?_
          refine twp_seq ?_
          refine twp_cond _ rfl (fun h24 => ?_) (fun h24 => ?_)
          · replace hm := ite_T h24 hm
            refine twp_skip ?_
            refine way_then ?_
            refine w_norm [50, 51, 52] rfl rfl ?_
            refine twp_seq ?_
            refine twp_block ?_
            refine twp_rseq ?_
            obtain ⟨e25, he25, hm⟩ := get_inv hm
            refine s_x rfl rfl (x_ix tab_ok rfl rfl rfl rfl he25) ?_
            iterate 2 (refine s_a tab_ok rfl ?_)
            refine tops_nil ?_
            refine w_norm [8, 50, 51, 52] rfl rfl ?_
            refine w_cut [(61, .d (.bool (((!(decide (e25 = (1 : Int)))) && (!(decide (e25 = (2 : Int))))))))] [61] [50, 51, 52] rfl ?_ ?_
            · refine twp_region ?_
              iterate 2 (refine s_a tab_ok rfl ?_)
              refine s_b tab_ok rfl (fun q26 hq26 => ?_)
              cases q26
              · iterate 3 (refine s_a tab_ok rfl ?_)
                refine tops_nil ?_
                refine way_then ?_
                exact ⟨[0, 1], rfl, k0, st_eq (fr_cons (av_bool (by simp [hq26])) rfl) rfl⟩
              · iterate 3 (refine s_a tab_ok rfl ?_)
                refine tops_nil ?_
                refine way_then ?_
                exact ⟨[0, 1], rfl, k0, st_eq (fr_cons (av_bool (by simp [hq26])) rfl) rfl⟩
            · refine w_norm [50, 51, 52, 61] rfl rfl ?_
              refine twp_cond _ rfl (fun h27 => ?_) (fun h27 => ?_)
              · replace hm := iteB_T h27 hm
                refine twp_rseq ?_
                refine s_a tab_ok rfl ?_
                refine tops_nil ?_
                refine w_norm [4] rfl rfl ?_
                refine twp_ret ?_
                refine way_blockRet ?_
                refine way_thenRet ?_
                obtain ⟨v28, hm, hz⟩ := inr_inv hm
                rw [hz23 _ hz] at hm
                refine way_thenRet ?_
                refine way_blockRet ?_
                obtain ⟨v29, hm, hz⟩ := inr_inv hm
                rw [hz20 _ hz] at hm
                refine way_thenRet ?_
                obtain rfl := Option.some.inj hm
                exact EndsS.one _ rfl (.d _) (.refl _)
              · replace hm := iteB_F h27 hm
                refine twp_skip ?_
                refine way_block ?_
                refine way_then ?_
                refine w_norm [50, 51, 52] rfl rfl ?_
                refine twp_region ?_
                obtain ⟨g30, hm⟩ := guard_inv hm
                refine s_x rfl rfl (x_ar rfl rfl rfl rfl g30) ?_
                refine s_a tab_ok rfl ?_
                refine tops_nil ?_
                refine way_then ?_
                exact ⟨_, [0, 1], (Option.some.inj hm).symm, rfl, k0, rfl⟩
          · replace hm := ite_F h24 hm
            refine twp_exit ?_
            refine way_thenExit ?_
            obtain ⟨v31, hm, hz⟩ := inr_inv hm
            rw [hz23 _ hz] at hm
            refine way_thenExit ?_
            refine way_here ?_
            refine way_then ?_
            exact ⟨_, [0, 1], (Option.some.inj hm).symm, rfl, k0, rfl⟩
        · refine w_norm [] rfl rfl ?_
          refine twp_rseq ?_
          refine s_a tab_ok rfl ?_
          refine tops_nil ?_
          refine w_norm [4] rfl rfl ?_
          refine twp_ret ?_
          obtain rfl := Option.some.inj hm
          exact EndsS.one _ rfl (.d _) (.refl _)

theorem slices_Clone_int_c {p0 : (List Int)} {r : (List Int)} (hm : slices_Clone_int p0 = some r) : RetD Try.prog 49 [.sl 1 (p0.map (D.int .i64))] (.sl 1 (r.map (D.int .i64))) := by
  refine .of (mv := fun _ => false) (ret_bodyS callB49 Try.func49 rfl Try.ntmps49 rfl rfl (fun wX gX => ?_))
  unfold slices_Clone_int at hm
  refine w_norm [0] rfl rfl ?_
  refine twp_rseq ?_
  refine s_a tab_ok rfl ?_
  refine tops_nil ?_
  refine w_norm [0] rfl rfl ?_
  refine twp_seq ?_
  refine twp_rseq ?_
  refine s_a tab_ok rfl ?_
  refine s_eqNil rfl Try.underlying23 rfl rfl (fun b1 hb1 => ?_)
  refine tops_nil ?_
  refine w_norm [0, 4] rfl rfl ?_
  refine twp_cond _ rfl (fun h2 => ?_) (fun h2 => ?_)
  · obtain ⟨hnb1, hm⟩ := nil_T (hb1 h2) hm
    subst hnb1
    refine twp_rseq ?_
    refine s_a tab_ok rfl ?_
    refine tops_nil ?_
    refine c_wk 2 [some 1] rfl ?_
    refine w_norm [2] rfl rfl ?_
    refine twp_ret ?_
    refine way_thenRet ?_
    obtain rfl := Option.some.inj hm
    exact EndsS.one _ rfl (.d _) (.refl _)
  · replace hm := nil_F hm
    refine twp_skip ?_
    refine way_then ?_
    refine w_norm [0] rfl rfl ?_
    refine twp_rseq ?_
    refine s_litO (f := (D.int .i64)) 0 [] ([] : List Int) tab_ok rfl rfl rfl zero3 rfl rfl rfl rfl rfl ?_
    refine s_a tab_ok rfl ?_
    obtain ⟨g3, hm⟩ := guard_inv hm
    refine s_app (f := (D.int .i64)) p0 tab_ok rfl rfl zero3 rfl rfl rfl rfl rfl (fun h => absurd h (Nat.not_lt_zero _)) rfl src_d g3 rfl rfl ?_
    refine s_a tab_ok rfl ?_
    refine tops_nil ?_
    refine w_norm [2] rfl rfl ?_
    refine twp_ret ?_
    obtain rfl := Option.some.inj hm
    exact EndsS.one _ rfl (snap_map rfl) (.refl _)

theorem locks_path_c {p0 : Route} {p1 : RouteState} {r : (List Int)} (hm : locks_path p0 p1 = some r) : RetD Try.prog 26 [p0.enc, p1.enc] (.sl 1 (r.map (D.int .i64))) := by
  refine .of (mv := fun _ => false) (ret_bodyS callB26 Try.func26 rfl Try.ntmps26 rfl rfl (fun wX gX => ?_))
  unfold locks_path at hm
  refine w_norm [0, 1] rfl rfl ?_
  refine twp_rseq ?_
  refine s_bx 0 rfl rfl rfl ?_
  refine s_bx 1 rfl rfl rfl ?_
  refine s_a tab_ok rfl ?_
  refine tops_nil ?_
  refine w_norm [2, 3] rfl rfl ?_
  refine twp_seq ?_
  refine twp_rseq ?_
  iterate 3 (refine s_a tab_ok rfl ?_)
  refine tops_nil ?_
  refine w_norm [2, 3, 7] rfl rfl ?_
  refine twp_cond _ rfl (fun h1 => ?_) (fun h1 => ?_)
  · replace hm := ite_T h1 hm
    refine twp_rseq ?_
    refine s_a tab_ok rfl ?_
    refine tops_nil ?_
    refine c_wk 4 [some 1] rfl ?_
    refine w_norm [4] rfl rfl ?_
    refine twp_ret ?_
    refine way_thenRet ?_
    obtain rfl := Option.some.inj hm
    exact EndsS.one _ rfl (.d _) (.refl _)
  · replace hm := ite_F h1 hm
    refine twp_skip ?_
    refine way_then ?_
    refine w_norm [2, 3] rfl rfl ?_
    refine twp_rseq ?_
    iterate 4 (refine s_a tab_ok rfl ?_)
    obtain ⟨g2, hm⟩ := guard_inv hm
    refine s_x rfl rfl (x_cut tab_ok rfl rfl rfl rfl rfl g2) ?_
    obtain ⟨r3, hr3, hm⟩ := bind_inv hm
    refine s_x rfl rfl (rd_callRD rfl rfl rfl (slices_Clone_int_c hr3)) ?_
    refine s_a tab_ok rfl ?_
    refine tops_nil ?_
    refine w_norm [4] rfl rfl ?_
    refine twp_ret ?_
    obtain rfl := Option.some.inj hm
    exact EndsS.one _ rfl (.d _) (.refl _)

theorem locks_Path_c {p0 : Table} {p1 : Inter} {p2 : Int} {r : (List Int)} (hm : locks_Path p0 p1 p2 = some r) : RetD Try.prog 12 [p0.enc, p1.enc, .int .i64 p2] (.sl 1 (r.map (D.int .i64))) := by
  refine .of (mv := fun _ => false) (ret_bodyS callB12 Try.func12 rfl Try.ntmps12 rfl rfl (fun wX gX => ?_))
  unfold locks_Path at hm
  refine w_norm [0, 1, 2] rfl rfl ?_
  refine twp_rseq ?_
  refine s_bx 0 rfl rfl rfl ?_
  refine s_bx 1 rfl rfl rfl ?_
  refine s_a tab_ok rfl ?_
  refine tops_nil ?_
  refine w_norm [2, 3, 4] rfl rfl ?_
  refine twp_seq ?_
  refine w_joinM hm (fun x1 => ([(21, .d (.bool (x1)))] : Fr)) (fun x1 => ([] : List (Nat × Blk))) [21] [2, 3, 4] rfl (fun z2 hm => ?_) (fun x1 hm => ?_)
  · refine twp_region ?_
    iterate 2 (refine s_a tab_ok rfl ?_)
    refine s_b tab_ok rfl (fun q3 hq3 => ?_)
    cases q3
    · replace hm := ite_F hq3 hm
      iterate 3 (refine s_a tab_ok rfl ?_)
      refine s_x rfl rfl (x_len tab_ok rfl rfl rfl) ?_
      iterate 2 (refine s_a tab_ok rfl ?_)
      refine s_b tab_ok rfl (fun q4 hq4 => ?_)
      cases q4
      · replace hm := ite_F hq4 hm
        iterate 2 (refine s_a tab_ok rfl ?_)
        obtain ⟨r5, hr5, hm⟩ := bind_inv hm
        refine s_x rfl rfl (rd_callRN rfl rfl (snaps_cons (.d _) (snaps_cons (.d _) snaps_nil)) (locks_fits_c hr5)) ?_
        iterate 2 (refine s_a tab_ok rfl ?_)
        refine tops_nil ?_
        refine way_then ?_
        exact ⟨_, [0, 1], (Option.some.inj hm).symm, rfl, k0, rfl⟩
      · replace hm := ite_T hq4 hm
        iterate 5 (refine s_a tab_ok rfl ?_)
        refine tops_nil ?_
        refine way_then ?_
        exact ⟨_, [0, 1], (Option.some.inj hm).symm, rfl, k0, rfl⟩
    · replace hm := ite_T hq3 hm
      iterate 12 (refine s_a tab_ok rfl ?_)
      refine tops_nil ?_
      refine way_then ?_
      exact ⟨_, [0, 1], (Option.some.inj hm).symm, rfl, k0, rfl⟩
  · refine w_norm [2, 3, 4, 21] rfl rfl ?_
    refine twp_cond _ rfl (fun h6 => ?_) (fun h6 => ?_)
    · replace hm := iteB_T h6 hm
      refine twp_rseq ?_
      refine s_a tab_ok rfl ?_
      refine tops_nil ?_
      refine c_wk 6 [some 1] rfl ?_
      refine w_norm [6] rfl rfl ?_
      refine twp_ret ?_
      refine way_thenRet ?_
      obtain rfl := Option.some.inj hm
      exact EndsS.one _ rfl (.d _) (.refl _)
    · replace hm := iteB_F h6 hm
      refine twp_skip ?_
      refine way_then ?_
      refine w_norm [2, 3, 4] rfl rfl ?_
      refine twp_dseq follows  ?_
      iterate 3 (refine d_a [0, 1] tab_ok rfl ?_)
      obtain ⟨e7, he7, hm⟩ := get_inv hm
      refine d_x [0, 1] rfl rfl (x_ix tab_ok rfl rfl rfl rfl he7) ?_
      iterate 4 (refine d_a [0, 1] tab_ok rfl ?_)
      obtain ⟨e8, he8, hm⟩ := get_inv hm
      refine d_x [0, 1] rfl rfl (x_ix tab_ok rfl rfl rfl rfl he8) ?_
      refine d_a [0, 1] tab_ok rfl ?_
      obtain ⟨r9, hr9, hm⟩ := bind_inv hm
      refine d_x [0, 1] rfl rfl (rd_callRD rfl rfl rfl (locks_path_c hr9)) ?_
      refine d_tail ?_ (by kernel_rfl)
      refine s_a tab_ok rfl ?_
      refine tops_nil ?_
      refine w_norm [6] rfl rfl ?_
      refine twp_ret ?_
      obtain rfl := Option.some.inj hm
      exact EndsS.one _ rfl (.d _) (.refl _)

theorem law21_ints_c {p0 : (List Int)} {p1 : (List Int)} {r : Bool} (hm : law21_ints p0 p1 = some r) : RetN Try.prog 11 [.sl 1 (p0.map (D.int .i64)), .sl 1 (p1.map (D.int .i64))] (.bool (r)) := by
  refine .unit (ret_bodyS callB11 Try.func11 rfl Try.ntmps11 rfl rfl (fun wX gX => ?_)) rfl
  unfold law21_ints at hm
  refine w_norm [0, 1] rfl rfl ?_
  refine twp_rseq ?_
  refine s_a tab_ok rfl ?_
  refine tops_nil ?_
  refine w_norm [0, 1] rfl rfl ?_
  refine twp_seq ?_
  refine twp_rseq ?_
  refine s_a tab_ok rfl ?_
  refine s_x rfl rfl (x_len tab_ok rfl rfl rfl) ?_
  refine s_a tab_ok rfl ?_
  refine s_x rfl rfl (x_len tab_ok rfl rfl rfl) ?_
  refine s_a tab_ok rfl ?_
  refine tops_nil ?_
  refine w_norm [0, 1, 10] rfl rfl ?_
  refine twp_cond _ rfl (fun h1 => ?_) (fun h1 => ?_)
  · replace hm := iteN_T h1 hm
    refine twp_rseq ?_
    refine s_a tab_ok rfl ?_
    refine tops_nil ?_
    refine w_norm [4] rfl rfl ?_
    refine twp_ret ?_
    refine way_thenRet ?_
    obtain rfl := Option.some.inj hm
    exact EndsS.one _ rfl (.d _) (.refl _)
  · replace hm := iteN_F h1 hm
    refine twp_skip ?_
    refine way_then ?_
    refine w_norm [0, 1] rfl rfl ?_
    refine w_joinS hm (fun _ => ([] : Fr)) (fun _ => ([] : List (Nat × Blk))) [] [] rfl (fun z2 hm hz2 => ?_) (fun j hm => ?_)
    · refine twp_rseq ?_
      refine s_a tab_ok rfl ?_
      refine s_x rfl rfl (x_len tab_ok rfl rfl rfl) ?_
      refine s_a tab_ok rfl ?_
      refine tops_nil ?_
      refine w_norm [0, 1, 12, 13] rfl rfl ?_
      refine twp_block ?_
      refine w_loop hm (fun x4 => ([(13, .d (.int .i64 x4))] : Fr)) (fun x4 => ([] : List (Nat × Blk))) [13] [0, 1, 12] [] rfl k0 rfl rfl rfl rfl rfl (fun x4 z5 hm hz5 => ?_)
      refine w_norm [0, 1, 12, 13] rfl rfl ?_
      refine twp_rseq ?_
      refine s_a tab_ok rfl ?_
      refine tops_nil ?_
      refine w_norm [0, 1, 12, 13, 14] rfl rfl ?_
      refine twp_seq ?_
      refine twp_cond _ rfl (fun h6 => ?_) (fun h6 => ?_)
      · replace hm := ite_T h6 hm
        refine twp_skip ?_
        refine way_then ?_
        refine w_norm [0, 1, 12, 13] rfl rfl ?_
        refine twp_seq ?_
        refine twp_block ?_
        refine twp_rseq ?_
        iterate 2 (refine s_a tab_ok rfl ?_)
        refine tops_nil ?_
        refine w_norm [0, 1, 5, 12, 13] rfl rfl ?_
        refine twp_dseq follows  ?_
        iterate 2 (refine d_a [] tab_ok rfl ?_)
        obtain ⟨e7, he7, hm⟩ := get_inv hm
        refine d_x [] rfl rfl (x_ix tab_ok rfl rfl rfl rfl he7) ?_
        iterate 3 (refine d_a [] tab_ok rfl ?_)
        obtain ⟨e8, he8, hm⟩ := get_inv hm
        refine d_x [] rfl rfl (x_ix tab_ok rfl rfl rfl rfl he8) ?_
        iterate 2 (refine d_a [] tab_ok rfl ?_)
        refine d_tail ?_ (by kernel_rfl)
        refine tops_nil ?_
        refine w_norm [0, 1, 12, 13, 24] rfl rfl ?_
        refine twp_cond _ rfl (fun h9 => ?_) (fun h9 => ?_)
        · replace hm := iteN_T h9 hm
          refine twp_rseq ?_
          refine s_a tab_ok rfl ?_
          refine tops_nil ?_
          refine w_norm [4] rfl rfl ?_
          refine twp_ret ?_
          refine way_blockRet ?_
          refine way_thenRet ?_
          obtain ⟨v10, hm, hz⟩ := inr_inv hm
          rw [hz5 _ hz] at hm
          refine way_thenRet ?_
          refine way_blockRet ?_
          obtain ⟨v11, hm, hz⟩ := inr_inv hm
          rw [hz2 _ hz] at hm
          refine way_thenRet ?_
          obtain rfl := Option.some.inj hm
          exact EndsS.one _ rfl (.d _) (.refl _)
        · replace hm := iteN_F h9 hm
          refine twp_skip ?_
          refine way_block ?_
          refine way_then ?_
          refine w_norm [0, 1, 12, 13] rfl rfl ?_
          refine twp_region ?_
          obtain ⟨g12, hm⟩ := guard_inv hm
          refine s_x rfl rfl (x_ar rfl rfl rfl rfl g12) ?_
          refine s_a tab_ok rfl ?_
          refine tops_nil ?_
          refine way_then ?_
          exact ⟨_, [], (Option.some.inj hm).symm, rfl, k0, rfl⟩
      · replace hm := ite_F h6 hm
        refine twp_exit ?_
        refine way_thenExit ?_
        obtain ⟨v13, hm, hz⟩ := inr_inv hm
        rw [hz5 _ hz] at hm
        refine way_thenExit ?_
        refine way_here ?_
        refine way_then ?_
        exact ⟨_, [], (Option.some.inj hm).symm, rfl, k0, rfl⟩
    · refine w_norm [] rfl rfl ?_
      refine twp_rseq ?_
      refine s_a tab_ok rfl ?_
      refine tops_nil ?_
      refine w_norm [4] rfl rfl ?_
      refine twp_ret ?_
      obtain rfl := Option.some.inj hm
      exact EndsS.one _ rfl (.d _) (.refl _)

theorem locks_over_c {p0 : Route} {p1 : RouteState} {r : (List Int)} (hm : locks_over p0 p1 = some r) : RetD Try.prog 29 [p0.enc, p1.enc] (.sl 1 (r.map (D.int .i64))) := by
  refine .of (mv := fun _ => false) (ret_bodyS callB29 Try.func29 rfl Try.ntmps29 rfl rfl (fun wX gX => ?_))
  unfold locks_over at hm
  refine w_norm [0, 1] rfl rfl ?_
  refine twp_rseq ?_
  refine s_bx 0 rfl rfl rfl ?_
  refine s_bx 1 rfl rfl rfl ?_
  refine s_a tab_ok rfl ?_
  refine tops_nil ?_
  refine w_norm [2, 3] rfl rfl ?_
  refine twp_seq ?_
  refine twp_rseq ?_
  iterate 3 (refine s_a tab_ok rfl ?_)
  refine tops_nil ?_
  refine w_norm [2, 7] rfl rfl ?_
  refine twp_cond _ rfl (fun h1 => ?_) (fun h1 => ?_)
  · replace hm := ite_T h1 hm
    refine twp_rseq ?_
    refine s_a tab_ok rfl ?_
    refine tops_nil ?_
    refine c_wk 4 [some 1] rfl ?_
    refine w_norm [4] rfl rfl ?_
    refine twp_ret ?_
    refine way_thenRet ?_
    obtain rfl := Option.some.inj hm
    exact EndsS.one _ rfl (.d _) (.refl _)
  · replace hm := ite_F h1 hm
    refine twp_skip ?_
    refine way_then ?_
    refine w_norm [2] rfl rfl ?_
    refine twp_rseq ?_
    iterate 2 (refine s_a tab_ok rfl ?_)
    obtain ⟨r2, hr2, hm⟩ := bind_inv hm
    refine s_x rfl rfl (rd_callRD rfl rfl rfl (slices_Clone_int_c hr2)) ?_
    refine s_a tab_ok rfl ?_
    refine tops_nil ?_
    refine w_norm [4] rfl rfl ?_
    refine twp_ret ?_
    obtain rfl := Option.some.inj hm
    exact EndsS.one _ rfl (.d _) (.refl _)

theorem locks_Over_c {p0 : Table} {p1 : Inter} {p2 : Int} {r : (List Int)} (hm : locks_Over p0 p1 p2 = some r) : RetD Try.prog 14 [p0.enc, p1.enc, .int .i64 p2] (.sl 1 (r.map (D.int .i64))) := by
  refine .of (mv := fun _ => false) (ret_bodyS callB14 Try.func14 rfl Try.ntmps14 rfl rfl (fun wX gX => ?_))
  unfold locks_Over at hm
  refine w_norm [0, 1, 2] rfl rfl ?_
  refine twp_rseq ?_
  refine s_bx 0 rfl rfl rfl ?_
  refine s_bx 1 rfl rfl rfl ?_
  refine s_a tab_ok rfl ?_
  refine tops_nil ?_
  refine w_norm [2, 3, 4] rfl rfl ?_
  refine twp_seq ?_
  refine w_joinM hm (fun x1 => ([(21, .d (.bool (x1)))] : Fr)) (fun x1 => ([] : List (Nat × Blk))) [21] [2, 3, 4] rfl (fun z2 hm => ?_) (fun x1 hm => ?_)
  · refine twp_region ?_
    iterate 2 (refine s_a tab_ok rfl ?_)
    refine s_b tab_ok rfl (fun q3 hq3 => ?_)
    cases q3
    · replace hm := ite_F hq3 hm
      iterate 3 (refine s_a tab_ok rfl ?_)
      refine s_x rfl rfl (x_len tab_ok rfl rfl rfl) ?_
      iterate 2 (refine s_a tab_ok rfl ?_)
      refine s_b tab_ok rfl (fun q4 hq4 => ?_)
      cases q4
      · replace hm := ite_F hq4 hm
        iterate 2 (refine s_a tab_ok rfl ?_)
        obtain ⟨r5, hr5, hm⟩ := bind_inv hm
        refine s_x rfl rfl (rd_callRN rfl rfl (snaps_cons (.d _) (snaps_cons (.d _) snaps_nil)) (locks_fits_c hr5)) ?_
        iterate 2 (refine s_a tab_ok rfl ?_)
        refine tops_nil ?_
        refine way_then ?_
        exact ⟨_, [0, 1], (Option.some.inj hm).symm, rfl, k0, rfl⟩
      · replace hm := ite_T hq4 hm
        iterate 5 (refine s_a tab_ok rfl ?_)
        refine tops_nil ?_
        refine way_then ?_
        exact ⟨_, [0, 1], (Option.some.inj hm).symm, rfl, k0, rfl⟩
    · replace hm := ite_T hq3 hm
      iterate 12 (refine s_a tab_ok rfl ?_)
      refine tops_nil ?_
      refine way_then ?_
      exact ⟨_, [0, 1], (Option.some.inj hm).symm, rfl, k0, rfl⟩
  · refine w_norm [2, 3, 4, 21] rfl rfl ?_
    refine twp_cond _ rfl (fun h6 => ?_) (fun h6 => ?_)
    · replace hm := iteB_T h6 hm
      refine twp_rseq ?_
      refine s_a tab_ok rfl ?_
      refine tops_nil ?_
      refine c_wk 6 [some 1] rfl ?_
      refine w_norm [6] rfl rfl ?_
      refine twp_ret ?_
      refine way_thenRet ?_
      obtain rfl := Option.some.inj hm
      exact EndsS.one _ rfl (.d _) (.refl _)
    · replace hm := iteB_F h6 hm
      refine twp_skip ?_
      refine way_then ?_
      refine w_norm [2, 3, 4] rfl rfl ?_
      refine twp_dseq follows  ?_
      iterate 3 (refine d_a [0, 1] tab_ok rfl ?_)
      obtain ⟨e7, he7, hm⟩ := get_inv hm
      refine d_x [0, 1] rfl rfl (x_ix tab_ok rfl rfl rfl rfl he7) ?_
      iterate 4 (refine d_a [0, 1] tab_ok rfl ?_)
      obtain ⟨e8, he8, hm⟩ := get_inv hm
      refine d_x [0, 1] rfl rfl (x_ix tab_ok rfl rfl rfl rfl he8) ?_
      refine d_a [0, 1] tab_ok rfl ?_
      obtain ⟨r9, hr9, hm⟩ := bind_inv hm
      refine d_x [0, 1] rfl rfl (rd_callRD rfl rfl rfl (locks_over_c hr9)) ?_
      refine d_tail ?_ (by kernel_rfl)
      refine s_a tab_ok rfl ?_
      refine tops_nil ?_
      refine w_norm [6] rfl rfl ?_
      refine twp_ret ?_
      obtain rfl := Option.some.inj hm
      exact EndsS.one _ rfl (.d _) (.refl _)

theorem slices_Contains_int_c {p0 : (List Int)} {p1 : Int} {r : Bool} (hm : slices_Contains_int p0 p1 = some r) : RetN Try.prog 70 [.sl 1 (p0.map (D.int .i64)), .int .i64 p1] (.bool (r)) := by
  refine .unit (ret_bodyS callB70 Try.func70 rfl Try.ntmps70 rfl rfl (fun wX gX => ?_)) rfl
  unfold slices_Contains_int at hm
  refine w_norm [0, 1] rfl rfl ?_
  refine twp_rseq ?_
  refine s_a tab_ok rfl ?_
  refine tops_nil ?_
  refine w_norm [0, 1] rfl rfl ?_
  refine twp_rseq ?_
  iterate 2 (refine s_a tab_ok rfl ?_)
  obtain ⟨r1, hr1, hm⟩ := bind_inv hm
  refine s_x rfl rfl (rd_callRN rfl rfl (snaps_cons (.d _) (snaps_cons (.d _) snaps_nil)) (slices_Index_int_c hr1)) ?_
  iterate 2 (refine s_a tab_ok rfl ?_)
  refine tops_nil ?_
  refine w_norm [4] rfl rfl ?_
  refine twp_ret ?_
  obtain rfl := Option.some.inj hm
  exact EndsS.one _ rfl (.d _) (.refl _)

end Go.Proofs.Ytckkkfgjgjoemaa
