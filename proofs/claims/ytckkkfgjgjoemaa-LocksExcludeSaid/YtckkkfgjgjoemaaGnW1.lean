/- The functions return what their models yield. No condition. -/
import Derived.Test.YtckkkfgjgjoemaaGnU
import Derived.Test.YtckkkfgjgjoemaaGnM
import Derived.Test.YtckkkfgjgjoemaaPlS
import Derived.Test.YtckkkfgjgjoemaaGnS
set_option maxHeartbeats 400000
set_option linter.unusedSimpArgs false
set_option linter.unusedVariables false
set_option maxRecDepth 20000
namespace Go.Proofs.Ytckkkfgjgjoemaa
open Go Go.TL

theorem law21_Small_c {p0 : Table} {p1 : Inter} {r : Bool} (hm : law21_Small p0 p1 = some r) : RetN Try.prog 9 [p0.enc, p1.enc] (.bool (r)) := by
  refine .unit (ret_bodyS callB9 Try.func9 rfl Try.ntmps9 rfl rfl (fun wX gX => ?_)) rfl
  unfold law21_Small at hm
  refine w_norm [0, 1] rfl rfl ?_
  refine twp_rseq ?_
  refine s_bx 0 rfl rfl rfl ?_
  refine s_bx 1 rfl rfl rfl ?_
  refine s_a tab_ok rfl ?_
  refine tops_nil ?_
  refine w_norm [2, 3] rfl rfl ?_
  refine w_joinS hm (fun _ => ([] : Fr)) (fun _ => ([] : List (Nat × Blk))) [] [2, 3] rfl (fun z1 hm hz1 => ?_) (fun j hm => ?_)
  · refine twp_rseq ?_
    iterate 2 (refine s_a tab_ok rfl ?_)
    refine s_x rfl rfl (x_len tab_ok rfl rfl rfl) ?_
    refine s_a tab_ok rfl ?_
    refine tops_nil ?_
    refine w_norm [2, 3, 9, 10] rfl rfl ?_
    refine twp_block ?_
    refine w_loop hm (fun x3 => ([(10, .d (.int .i64 x3))] : Fr)) (fun x3 => ([] : List (Nat × Blk))) [10] [2, 3, 9] [0, 1] rfl k0 rfl rfl rfl rfl rfl (fun x3 z4 hm hz4 => ?_)
    refine w_norm [2, 3, 9, 10] rfl rfl ?_
    refine twp_rseq ?_
    refine s_a tab_ok rfl ?_
    refine tops_nil ?_
    refine w_norm [2, 3, 9, 10, 11] rfl rfl ?_
    refine twp_seq ?_
    refine twp_cond _ rfl (fun h5 => ?_) (fun h5 => ?_)
    · replace hm := ite_T h5 hm
      refine twp_skip ?_
      refine way_then ?_
      refine w_norm [2, 3, 9, 10] rfl rfl ?_
      refine twp_seq ?_
      refine twp_block ?_
      refine twp_rseq ?_
      iterate 2 (refine s_a tab_ok rfl ?_)
      refine tops_nil ?_
      refine w_norm [2, 3, 5, 9, 10] rfl rfl ?_
      refine twp_rseq ?_
      iterate 3 (refine s_a tab_ok rfl ?_)
      obtain ⟨e6, he6, hm⟩ := get_inv hm
      refine s_x rfl rfl (x_ix tab_ok rfl rfl rfl rfl he6) ?_
      refine s_a tab_ok rfl ?_
      refine s_al 2 rfl rfl zero48 rfl ?_
      refine s_wkb 2 [none, none, none, some 3, some 2, some 1, none, none, some 3, some 2, some 1, some 2, some 1, some 2] rfl rfl ?_
      refine s_a tab_ok rfl ?_
      refine tops_nil ?_
      refine w_norm [2, 3, 6, 9, 10] rfl rfl ?_
      refine w_cut [(51, .d (.bool (((decide ((30 : Int) < (e6.sections.length : Int))) || ((decide ((30 : Int) < (e6.overSections.length : Int))) || ((decide ((30 : Int) < (e6.points.length : Int))) || ((decide ((30 : Int) < (e6.overPoints.length : Int))) || ((decide ((30 : Int) < (e6.flank.length : Int))) || (decide ((30 : Int) < (e6.path.length : Int)))))))))))] [51] [2, 3, 9, 10] rfl ?_ ?_
      · refine twp_region ?_
        iterate 2 (refine s_a tab_ok rfl ?_)
        refine s_x rfl rfl (x_len tab_ok rfl rfl rfl) ?_
        refine s_a tab_ok rfl ?_
        refine s_b tab_ok rfl (fun q7 hq7 => ?_)
        cases q7
        · iterate 2 (refine s_a tab_ok rfl ?_)
          refine s_x rfl rfl (x_len tab_ok rfl rfl rfl) ?_
          iterate 2 (refine s_a tab_ok rfl ?_)
          refine s_b tab_ok rfl (fun q8 hq8 => ?_)
          cases q8
          · iterate 2 (refine s_a tab_ok rfl ?_)
            refine s_x rfl rfl (x_len tab_ok rfl rfl rfl) ?_
            iterate 2 (refine s_a tab_ok rfl ?_)
            refine s_b tab_ok rfl (fun q9 hq9 => ?_)
            cases q9
            · iterate 2 (refine s_a tab_ok rfl ?_)
              refine s_x rfl rfl (x_len tab_ok rfl rfl rfl) ?_
              iterate 2 (refine s_a tab_ok rfl ?_)
              refine s_b tab_ok rfl (fun q10 hq10 => ?_)
              cases q10
              · iterate 2 (refine s_a tab_ok rfl ?_)
                refine s_x rfl rfl (x_len tab_ok rfl rfl rfl) ?_
                iterate 2 (refine s_a tab_ok rfl ?_)
                refine s_b tab_ok rfl (fun q11 hq11 => ?_)
                cases q11
                · iterate 2 (refine s_a tab_ok rfl ?_)
                  refine s_x rfl rfl (x_len tab_ok rfl rfl rfl) ?_
                  iterate 2 (refine s_a tab_ok rfl ?_)
                  refine tops_nil ?_
                  refine way_then ?_
                  exact ⟨[0, 1, 2], rfl, k0, st_eq (fr_cons (av_bool (by simp [hq7, hq8, hq9, hq10, hq11])) rfl) rfl⟩
                · iterate 5 (refine s_a tab_ok rfl ?_)
                  refine tops_nil ?_
                  refine way_then ?_
                  exact ⟨[0, 1, 2], rfl, k0, st_eq (fr_cons (av_bool (by simp [hq7, hq8, hq9, hq10, hq11])) rfl) rfl⟩
              · iterate 11 (refine s_a tab_ok rfl ?_)
                refine tops_nil ?_
                refine way_then ?_
                exact ⟨[0, 1, 2], rfl, k0, st_eq (fr_cons (av_bool (by simp [hq7, hq8, hq9, hq10])) rfl) rfl⟩
            · iterate 17 (refine s_a tab_ok rfl ?_)
              refine tops_nil ?_
              refine way_then ?_
              exact ⟨[0, 1, 2], rfl, k0, st_eq (fr_cons (av_bool (by simp [hq7, hq8, hq9])) rfl) rfl⟩
          · iterate 23 (refine s_a tab_ok rfl ?_)
            refine tops_nil ?_
            refine way_then ?_
            exact ⟨[0, 1, 2], rfl, k0, st_eq (fr_cons (av_bool (by simp [hq7, hq8])) rfl) rfl⟩
        · iterate 29 (refine s_a tab_ok rfl ?_)
          refine tops_nil ?_
          refine way_then ?_
          exact ⟨[0, 1, 2], rfl, k0, st_eq (fr_cons (av_bool (by simp [hq7])) rfl) rfl⟩
      · refine w_norm [2, 3, 9, 10, 51] rfl rfl ?_
        refine twp_cond _ rfl (fun h12 => ?_) (fun h12 => ?_)
        · replace hm := iteB_T h12 hm
          refine twp_rseq ?_
          refine s_a tab_ok rfl ?_
          refine tops_nil ?_
          refine w_norm [4] rfl rfl ?_
          refine twp_ret ?_
          refine way_blockRet ?_
          refine way_thenRet ?_
          obtain ⟨v13, hm, hz⟩ := inr_inv hm
          rw [hz4 _ hz] at hm
          refine way_thenRet ?_
          refine way_blockRet ?_
          obtain ⟨v14, hm, hz⟩ := inr_inv hm
          rw [hz1 _ hz] at hm
          refine way_thenRet ?_
          obtain rfl := Option.some.inj hm
          exact EndsS.one _ rfl (.d _) (.refl _)
        · replace hm := iteB_F h12 hm
          refine twp_skip ?_
          refine way_block ?_
          refine way_then ?_
          refine w_norm [2, 3, 9, 10] rfl rfl ?_
          refine twp_region ?_
          obtain ⟨g15, hm⟩ := guard_inv hm
          refine s_x rfl rfl (x_ar rfl rfl rfl rfl g15) ?_
          refine s_a tab_ok rfl ?_
          refine tops_nil ?_
          refine way_then ?_
          exact ⟨_, [0, 1], (Option.some.inj hm).symm, rfl, k0, rfl⟩
    · replace hm := ite_F h5 hm
      refine twp_exit ?_
      refine way_thenExit ?_
      obtain ⟨v16, hm, hz⟩ := inr_inv hm
      rw [hz4 _ hz] at hm
      refine way_thenExit ?_
      refine way_here ?_
      refine way_then ?_
      exact ⟨_, [0, 1], (Option.some.inj hm).symm, rfl, k0, rfl⟩
  · refine w_norm [2, 3] rfl rfl ?_
    refine w_cut [(4, .d (.bool (((decide ((p0.routes.length : Int) ≤ (50 : Int))) && ((decide ((p0.points.length : Int) ≤ (40 : Int))) && ((decide ((p0.homes.length : Int) ≤ (40 : Int))) && ((decide ((p1.routes.length : Int) ≤ (50 : Int))) && (decide ((p1.lies.length : Int) ≤ (40 : Int))))))))))] [4] [] rfl ?_ ?_
    · refine twp_region ?_
      iterate 2 (refine s_a tab_ok rfl ?_)
      refine s_x rfl rfl (x_len tab_ok rfl rfl rfl) ?_
      refine s_a tab_ok rfl ?_
      refine s_b tab_ok rfl (fun q17 hq17 => ?_)
      cases q17
      · iterate 24 (refine s_a tab_ok rfl ?_)
        refine tops_nil ?_
        refine way_then ?_
        exact ⟨[0, 1], rfl, k0, st_eq (fr_cons (av_bool (by simp [hq17])) rfl) rfl⟩
      · iterate 2 (refine s_a tab_ok rfl ?_)
        refine s_x rfl rfl (x_len tab_ok rfl rfl rfl) ?_
        iterate 2 (refine s_a tab_ok rfl ?_)
        refine s_b tab_ok rfl (fun q18 hq18 => ?_)
        cases q18
        · iterate 18 (refine s_a tab_ok rfl ?_)
          refine tops_nil ?_
          refine way_then ?_
          exact ⟨[0, 1], rfl, k0, st_eq (fr_cons (av_bool (by simp [hq17, hq18])) rfl) rfl⟩
        · iterate 2 (refine s_a tab_ok rfl ?_)
          refine s_x rfl rfl (x_len tab_ok rfl rfl rfl) ?_
          iterate 2 (refine s_a tab_ok rfl ?_)
          refine s_b tab_ok rfl (fun q19 hq19 => ?_)
          cases q19
          · iterate 12 (refine s_a tab_ok rfl ?_)
            refine tops_nil ?_
            refine way_then ?_
            exact ⟨[0, 1], rfl, k0, st_eq (fr_cons (av_bool (by simp [hq17, hq18, hq19])) rfl) rfl⟩
          · iterate 2 (refine s_a tab_ok rfl ?_)
            refine s_x rfl rfl (x_len tab_ok rfl rfl rfl) ?_
            iterate 2 (refine s_a tab_ok rfl ?_)
            refine s_b tab_ok rfl (fun q20 hq20 => ?_)
            cases q20
            · iterate 6 (refine s_a tab_ok rfl ?_)
              refine tops_nil ?_
              refine way_then ?_
              exact ⟨[0, 1], rfl, k0, st_eq (fr_cons (av_bool (by simp [hq17, hq18, hq19, hq20])) rfl) rfl⟩
            · iterate 2 (refine s_a tab_ok rfl ?_)
              refine s_x rfl rfl (x_len tab_ok rfl rfl rfl) ?_
              iterate 3 (refine s_a tab_ok rfl ?_)
              refine tops_nil ?_
              refine way_then ?_
              exact ⟨[0, 1], rfl, k0, st_eq (fr_cons (av_bool (by simp [hq17, hq18, hq19, hq20])) rfl) rfl⟩
    · refine w_norm [4] rfl rfl ?_
      refine twp_ret ?_
      obtain rfl := Option.some.inj hm
      exact EndsS.one _ rfl (.d _) (.refl _)

theorem law21_Table_c  {r : Table} (hm : law21_Table  = some r) : RetD Try.prog 24 [] (r.enc) := by
  refine .of (mv := fun _ => false) (ret_bodyS callB24 Try.func24 rfl Try.ntmps24 rfl rfl (fun wX gX => ?_))
  unfold law21_Table at hm
  refine w_norm [] rfl rfl ?_
  refine twp_rseq ?_
  refine s_al 0 rfl rfl zero25 rfl ?_
  refine s_wkb 0 [some 14, some 1, some 1, none, none] rfl rfl ?_
  refine tops_nil ?_
  refine w_norm [0] rfl rfl ?_
  refine twp_rseq ?_
  refine s_x rfl rfl (build_d rfl plc66 zero66 rfl rfl rfl rfl) ?_
  refine s_x rfl rfl (x_lit [.tmp 3] tab_ok rfl rfl zero66 rfl rfl rfl rfl rfl) ?_
  refine s_a tab_ok rfl ?_
  refine tops_nil ?_
  refine w_norm [0, 1] rfl rfl ?_
  refine twp_rseq ?_
  refine s_x rfl rfl (build_d rfl plc54 zero54 rfl rfl rfl rfl) ?_
  refine s_x rfl rfl (x_lit [.tmp 5] tab_ok rfl rfl zero54 rfl rfl rfl rfl rfl) ?_
  refine s_a tab_ok rfl ?_
  refine tops_nil ?_
  refine w_norm [0, 1, 2] rfl rfl ?_
  refine twp_rseq ?_
  refine s_x rfl rfl (x_lit [.const (Value.int IntKind.i64 5)] tab_ok rfl rfl zero3 rfl rfl rfl rfl rfl) ?_
  refine s_x rfl rfl (x_lit [.const (Value.int IntKind.i64 3)] tab_ok rfl rfl zero3 rfl rfl rfl rfl rfl) ?_
  refine s_a tab_ok rfl ?_
  refine s_x rfl rfl (x_lit [.const (Value.int IntKind.i64 1), .const (Value.int IntKind.i64 2)] tab_ok rfl rfl zero3 rfl rfl rfl rfl rfl) ?_
  refine s_x rfl rfl (x_lit [.const (Value.int IntKind.i64 3)] tab_ok rfl rfl zero3 rfl rfl rfl rfl rfl) ?_
  refine s_a tab_ok rfl ?_
  refine s_x rfl rfl (build_d rfl plc48 zero48 rfl rfl rfl rfl) ?_
  refine s_wk 13 [none, none, none, none, some 2, none, none, none, some 3, none, none, some 2, some 1, some 2] rfl ?_
  refine s_a tab_ok rfl ?_
  refine s_x rfl rfl (x_lit [.const (Value.int IntKind.i64 3), .const (Value.int IntKind.i64 4)] tab_ok rfl rfl zero3 rfl rfl rfl rfl rfl) ?_
  refine s_a tab_ok rfl ?_
  refine s_x rfl rfl (build_d rfl plc48 zero48 rfl rfl rfl rfl) ?_
  refine s_wk 17 [none, none, none, none, none, none, none, none, some 3, some 2, some 1, some 2, some 1, some 2] rfl ?_
  refine s_x rfl rfl (x_lit [.tmp 13, .tmp 17] tab_ok rfl rfl zero48 rfl rfl rfl rfl rfl) ?_
  refine s_x rfl rfl (build_d rfl plc25 zero25 rfl rfl rfl rfl) ?_
  refine s_a tab_ok rfl ?_
  refine tops_nil ?_
  refine w_norm [0] rfl rfl ?_
  refine twp_ret ?_
  obtain rfl := Option.some.inj hm
  exact EndsS.cellR _ tab_ok rfl rfl rfl rfl rfl (.d _)

theorem table_within_c {p0 : Int} {p1 : Int} {r : Bool} (hm : table_within p0 p1 = some r) : RetN Try.prog 66 [.int .i64 p0, .int .i64 p1] (.bool (r)) := by
  refine .unit (ret_bodyS callB66 Try.func66 rfl Try.ntmps66 rfl rfl (fun wX gX => ?_)) rfl
  unfold table_within at hm
  refine w_norm [0, 1] rfl rfl ?_
  refine twp_rseq ?_
  refine s_a tab_ok rfl ?_
  refine tops_nil ?_
  refine w_norm [0, 1] rfl rfl ?_
  refine w_cut [(4, .d (.bool (((decide ((0 : Int) ≤ p0)) && (decide (p0 < p1))))))] [4] [] rfl ?_ ?_
  · refine twp_region ?_
    iterate 2 (refine s_a tab_ok rfl ?_)
    refine s_b tab_ok rfl (fun q1 hq1 => ?_)
    cases q1
    · iterate 5 (refine s_a tab_ok rfl ?_)
      refine tops_nil ?_
      refine way_then ?_
      exact ⟨[], rfl, k0, st_eq (fr_cons (av_bool (by simp [hq1])) rfl) rfl⟩
    · iterate 5 (refine s_a tab_ok rfl ?_)
      refine tops_nil ?_
      refine way_then ?_
      exact ⟨[], rfl, k0, st_eq (fr_cons (av_bool (by simp [hq1])) rfl) rfl⟩
  · refine w_norm [4] rfl rfl ?_
    refine twp_ret ?_
    obtain rfl := Option.some.inj hm
    exact EndsS.one _ rfl (.d _) (.refl _)

theorem table_pointsRight_c {p0 : Table} {r : Bool} (hm : table_pointsRight p0 = some r) : RetN Try.prog 67 [p0.enc] (.bool (r)) := by
  refine .unit (ret_bodyS callB67 Try.func67 rfl Try.ntmps67 rfl rfl (fun wX gX => ?_)) rfl
  unfold table_pointsRight at hm
  refine w_norm [0] rfl rfl ?_
  refine twp_rseq ?_
  refine s_bx 0 rfl rfl rfl ?_
  refine s_a tab_ok rfl ?_
  refine tops_nil ?_
  refine w_norm [1] rfl rfl ?_
  refine twp_seq ?_
  refine twp_rseq ?_
  iterate 2 (refine s_a tab_ok rfl ?_)
  refine s_x rfl rfl (x_len tab_ok rfl rfl rfl) ?_
  iterate 2 (refine s_a tab_ok rfl ?_)
  refine s_x rfl rfl (x_len tab_ok rfl rfl rfl) ?_
  refine s_a tab_ok rfl ?_
  refine tops_nil ?_
  refine w_norm [1, 11] rfl rfl ?_
  refine twp_cond _ rfl (fun h1 => ?_) (fun h1 => ?_)
  · replace hm := iteN_T h1 hm
    refine twp_rseq ?_
    refine s_a tab_ok rfl ?_
    refine tops_nil ?_
    refine w_norm [2] rfl rfl ?_
    refine twp_ret ?_
    refine way_thenRet ?_
    obtain rfl := Option.some.inj hm
    exact EndsS.one _ rfl (.d _) (.refl _)
  · replace hm := iteN_F h1 hm
    refine twp_skip ?_
    refine way_then ?_
    refine w_norm [1] rfl rfl ?_
    refine w_joinS hm (fun _ => ([] : Fr)) (fun _ => ([] : List (Nat × Blk))) [] [] rfl (fun z2 hm hz2 => ?_) (fun j hm => ?_)
    · refine twp_rseq ?_
      iterate 2 (refine s_a tab_ok rfl ?_)
      refine s_x rfl rfl (x_len tab_ok rfl rfl rfl) ?_
      refine s_a tab_ok rfl ?_
      refine tops_nil ?_
      refine w_norm [1, 13, 14, 15] rfl rfl ?_
      refine twp_block ?_
      refine w_loop hm (fun x4 => ([(15, .d (.int .i64 x4))] : Fr)) (fun x4 => ([] : List (Nat × Blk))) [15] [1, 13, 14] [0] rfl k0 rfl rfl rfl rfl rfl (fun x4 z5 hm hz5 => ?_)
      refine w_norm [1, 13, 14, 15] rfl rfl ?_
      refine twp_rseq ?_
      refine s_a tab_ok rfl ?_
      refine tops_nil ?_
      refine w_norm [1, 13, 14, 15, 16] rfl rfl ?_
      refine twp_seq ?_
      refine twp_cond _ rfl (fun h6 => ?_) (fun h6 => ?_)
      · replace hm := ite_T h6 hm
        refine twp_skip ?_
        refine way_then ?_
        refine w_norm [1, 13, 14, 15] rfl rfl ?_
        refine twp_seq ?_
        refine twp_block ?_
        refine twp_rseq ?_
        refine s_a tab_ok rfl ?_
        obtain ⟨e7, he7, hm⟩ := get_inv hm
        refine s_x rfl rfl (x_ix tab_ok rfl rfl rfl rfl he7) ?_
        iterate 3 (refine s_a tab_ok rfl ?_)
        refine tops_nil ?_
        refine w_norm [1, 3, 4, 13, 14, 15] rfl rfl ?_
        refine w_joinM hm (fun x8 => ([(46, .d (.bool (x8)))] : Fr)) (fun x8 => ([] : List (Nat × Blk))) [46] [1, 13, 14, 15] rfl (fun z9 hm => ?_) (fun x8 hm => ?_)
        · refine twp_draw follows  ?_
          iterate 2 (refine d_a [0] tab_ok rfl ?_)
          refine d_b [0] tab_ok rfl (fun q10 hq10 => ?_)
          cases q10
          · replace hm := ite_F hq10 hm
            iterate 2 (refine d_a [0] tab_ok rfl ?_)
            refine d_b [0] tab_ok rfl (fun q11 hq11 => ?_)
            cases q11
            · replace hm := ite_F hq11 hm
              iterate 14 (refine d_a [0] tab_ok rfl ?_)
              obtain ⟨e12, he12, hm⟩ := get_inv hm
              refine d_x [0] rfl rfl (x_ix tab_ok rfl rfl rfl rfl he12) ?_
              iterate 3 (refine d_a [0] tab_ok rfl ?_)
              obtain ⟨r13, hr13, hm⟩ := bind_inv hm
              refine d_x [0] rfl rfl (rd_callRN rfl rfl (snaps_cons (.d _) (snaps_cons (.d _) snaps_nil)) (table_within_c hr13)) ?_
              iterate 2 (refine d_a [0] tab_ok rfl ?_)
              refine d_tail ?_ (by kernel_rfl)
              refine tops_nil ?_
              refine way_then ?_
              exact ⟨_, [0], (Option.some.inj hm).symm, rfl, k0, rfl⟩
            · replace hm := ite_T hq11 hm
              iterate 4 (refine d_a [0] tab_ok rfl ?_)
              obtain ⟨g14, hm⟩ := guard_inv hm
              refine d_x [0] rfl rfl (x_ar rfl rfl rfl rfl g14) ?_
              obtain ⟨e15, he15, hm⟩ := get_inv hm
              refine d_x [0] rfl rfl (x_ix tab_ok rfl rfl rfl rfl he15) ?_
              iterate 4 (refine d_a [0] tab_ok rfl ?_)
              refine d_b [0] tab_ok rfl (fun q16 hq16 => ?_)
              cases q16
              · replace hm := ite_F hq16 hm
                iterate 3 (refine d_a [0] tab_ok rfl ?_)
                obtain ⟨e17, he17, hm⟩ := get_inv hm
                refine d_x [0] rfl rfl (x_ix tab_ok rfl rfl rfl rfl he17) ?_
                iterate 3 (refine d_a [0] tab_ok rfl ?_)
                obtain ⟨r18, hr18, hm⟩ := bind_inv hm
                refine d_x [0] rfl rfl (rd_callRN rfl rfl (snaps_cons (.d _) (snaps_cons (.d _) snaps_nil)) (table_within_c hr18)) ?_
                iterate 2 (refine d_a [0] tab_ok rfl ?_)
                refine d_tail ?_ (by kernel_rfl)
                refine tops_nil ?_
                refine way_then ?_
                exact ⟨_, [0], (Option.some.inj hm).symm, rfl, k0, rfl⟩
              · replace hm := ite_T hq16 hm
                iterate 10 (refine d_a [0] tab_ok rfl ?_)
                refine d_tail ?_ (by kernel_rfl)
                refine tops_nil ?_
                refine way_then ?_
                exact ⟨_, [0], (Option.some.inj hm).symm, rfl, k0, rfl⟩
          · replace hm := ite_T hq10 hm
            iterate 24 (refine d_a [0] tab_ok rfl ?_)
            refine d_tail ?_ (by kernel_rfl)
            refine tops_nil ?_
            refine way_then ?_
            exact ⟨_, [0], (Option.some.inj hm).symm, rfl, k0, rfl⟩
        · refine w_norm [1, 13, 14, 15, 46] rfl rfl ?_
          refine twp_cond _ rfl (fun h19 => ?_) (fun h19 => ?_)
          · replace hm := iteB_T h19 hm
            refine twp_rseq ?_
            refine s_a tab_ok rfl ?_
            refine tops_nil ?_
            refine w_norm [2] rfl rfl ?_
            refine twp_ret ?_
            refine way_blockRet ?_
            refine way_thenRet ?_
            obtain ⟨v20, hm, hz⟩ := inr_inv hm
            rw [hz5 _ hz] at hm
            refine way_thenRet ?_
            refine way_blockRet ?_
            obtain ⟨v21, hm, hz⟩ := inr_inv hm
            rw [hz2 _ hz] at hm
            refine way_thenRet ?_
            obtain rfl := Option.some.inj hm
            exact EndsS.one _ rfl (.d _) (.refl _)
          · replace hm := iteB_F h19 hm
            refine twp_skip ?_
            refine way_block ?_
            refine way_then ?_
            refine w_norm [1, 13, 14, 15] rfl rfl ?_
            refine twp_region ?_
            obtain ⟨g22, hm⟩ := guard_inv hm
            refine s_x rfl rfl (x_ar rfl rfl rfl rfl g22) ?_
            refine s_a tab_ok rfl ?_
            refine tops_nil ?_
            refine way_then ?_
            exact ⟨_, [0], (Option.some.inj hm).symm, rfl, k0, rfl⟩
      · replace hm := ite_F h6 hm
        refine twp_exit ?_
        refine way_thenExit ?_
        obtain ⟨v23, hm, hz⟩ := inr_inv hm
        rw [hz5 _ hz] at hm
        refine way_thenExit ?_
        refine way_here ?_
        refine way_then ?_
        exact ⟨_, [0], (Option.some.inj hm).symm, rfl, k0, rfl⟩
    · refine w_norm [] rfl rfl ?_
      refine twp_rseq ?_
      refine s_a tab_ok rfl ?_
      refine tops_nil ?_
      refine w_norm [2] rfl rfl ?_
      refine twp_ret ?_
      obtain rfl := Option.some.inj hm
      exact EndsS.one _ rfl (.d _) (.refl _)

theorem slices_Concat_intGrow (n : Nat) (hn : n ≤ 1000000000) (mv : Nat → Bool) : Ret Try.prog 91 [] mv ([.nilsl, .int .i64 n].map .d) (.msl 0 1 0 0) [.flat 3 1 []] := by
  refine ret_body callB91 Try.func91 rfl Try.ntmps91 rfl rfl (fun wX gX => ?_)
  refine twp_norm [0, 1] (sub_d rfl (sub_d rfl .nil)) (blk_nil rfl) ?_
  refine twp_rseq ?_
  refine s_rd _ rfl (mv_d (.inr rfl) rfl) ?_
  refine tops_nil ?_
  refine twp_norm [0, 1] (sub_d rfl (sub_d rfl .nil)) (blk_nil rfl) ?_
  refine twp_seq ?_
  refine twp_rseq ?_
  refine s_rd _ rfl (mv_d (.inl rfl) rfl) ?_
  refine s_rd _ rfl (cmp_int rfl rfl rfl rfl) ?_
  refine tops_nil ?_
  refine twp_norm [0, 1, 6] (sub_d rfl (sub_d rfl (sub_d rfl .nil))) (blk_nil rfl) ?_
  refine twp_cond _ rfl (fun hneg => ?_) (fun hneg => ?_)
  · exact absurd (of_decide_eq_true hneg) (by omega)
  · refine twp_skip ?_
    refine way_then ?_
    refine twp_norm [0, 1] (sub_d rfl (sub_d rfl .nil)) (blk_nil rfl) ?_
    refine twp_seq ?_
    refine twp_rseq ?_
    refine s_rd _ rfl (mv_d (.inl rfl) rfl) ?_
    refine s_rd _ rfl (mv_d (.inl rfl) rfl) ?_
    refine s_rd _ rfl (cap_nil rfl sel23 rfl) ?_
    refine s_rd _ rfl (mv_d (.inl rfl) rfl) ?_
    refine s_rd _ rfl (len_nil rfl sel23 rfl) ?_
    refine s_rd _ rfl (arith_to (r := 0) rfl rfl rfl rfl rfl (by first | omega | (constructor <;> omega))) ?_
    refine s_rd _ rfl (arith_to (r := (n : Int)) rfl rfl rfl rfl (by omega) (by first | omega | (constructor <;> omega))) ?_
    refine s_rd _ rfl (mv_d (.inr rfl) rfl) ?_
    refine tops_nil ?_
    refine twp_norm [0, 1] (sub_d rfl (sub_d rfl .nil)) (blk_nil rfl) ?_
    refine twp_rseq ?_
    refine s_rd _ rfl (mv_d (.inl rfl) rfl) ?_
    refine s_rd _ rfl (cmp_int rfl rfl rfl rfl) ?_
    refine tops_nil ?_
    refine twp_norm [0, 1, 16] (sub_d rfl (sub_d rfl (sub_d rfl .nil))) (blk_nil rfl) ?_
    refine twp_cond _ rfl (fun hpos => ?_) (fun hpos => ?_)
    · have hpos : 0 < n := by simpa using hpos
      refine twp_region ?_
      refine s_rd _ rfl (mv_d (.inl rfl) rfl) ?_
      refine s_rd _ rfl (mv_d (.inl rfl) rfl) ?_
      refine s_rd _ rfl (cap_nil rfl sel23 rfl) ?_
      refine s_rd _ rfl (cut_nil rfl sel23 rfl rfl rfl) ?_
      refine s_rd _ rfl (mv_d (.inl rfl) rfl) ?_
      refine s_zeros (n := n) rfl sel23 Try.underlying3 zero3 rfl rfl rfl hpos (by decide) (by omega) (by omega) ?_
      refine s_rd _ rfl (mv_d (.inl rfl) rfl) ?_
      refine s_rd _ rfl (len_nil rfl sel23 rfl) ?_
      refine s_rd _ rfl (rd_cut_msl 0 1 8 0 n 0 0 rfl sel23 rfl rfl rfl (Nat.le_refl _) (Nat.zero_le _)) ?_
      refine s_rd _ rfl (mv_msl (.inr rfl) rfl) ?_
      refine tops_nil ?_
      refine way_then ?_
      refine twp_norm [0] (sub_msl rfl .nil) (blk_flat rfl (blk_nil rfl)) ?_
      refine twp_rseq ?_
      refine s_rd _ rfl (mv_msl (.inl rfl) rfl) ?_
      refine s_rd _ rfl (mv_msl (.inr rfl) rfl) ?_
      refine tops_nil ?_
      refine twp_norm [4] (sub_msl rfl .nil) (blk_flat rfl (blk_nil rfl)) ?_
      refine twp_ret ?_
      exact ⟨_, [0], res rfl, by decide, fun i hi => absurd hi (Nat.not_lt_zero i), rfl, rfl⟩
    · refine twp_upgrade 0 3 1 rfl ?_
      refine twp_skip ?_
      refine way_then ?_
      refine twp_norm [0] (sub_msl rfl .nil) (blk_flat rfl (blk_nil rfl)) ?_
      refine twp_rseq ?_
      refine s_rd _ rfl (mv_msl (.inl rfl) rfl) ?_
      refine s_rd _ rfl (mv_msl (.inr rfl) rfl) ?_
      refine tops_nil ?_
      refine twp_norm [4] (sub_msl rfl .nil) (blk_flat rfl (blk_nil rfl)) ?_
      refine twp_ret ?_
      exact ⟨_, [0], res rfl, by decide, fun i hi => absurd hi (Nat.not_lt_zero i), rfl, rfl⟩

theorem slices_Concat_intConcat (xss : List (List Int)) (hn : xss.length ≤ 1000) (ht : xss.flatten.length ≤ 1000000000) (mv : Nat → Bool) : Ret Try.prog 79 [] mv ([.sl 1 (xss.map fun l => .sl 1 (l.map (D.int .i64)))].map .d) (.msl 0 1 0 xss.flatten.length) [.flat 3 1 (xss.flatten.map (D.int .i64))] := by
  refine ret_body callB79 Try.func79 rfl Try.ntmps79 rfl rfl (fun wX gX => ?_)
  refine twp_norm [0] (sub_d rfl .nil) (blk_nil rfl) ?_
  refine twp_rseq ?_
  refine s_rd _ rfl (mv_d (.inr rfl) rfl) ?_
  refine tops_nil ?_
  refine twp_norm [0] (sub_d rfl .nil) (blk_nil rfl) ?_
  refine twp_rseq ?_
  refine s_rd _ rfl (mv_d (.inr rfl) rfl) ?_
  refine tops_nil ?_
  refine twp_norm [0, 3] (sub_d rfl (sub_d rfl .nil)) (blk_nil rfl) ?_
  refine twp_seq ?_
  refine twp_rseq ?_
  refine s_rd _ rfl (mv_d (.inl rfl) rfl) ?_
  refine s_rd _ rfl (by first | exact len_d rfl sel109 rfl (by first | exact List.length_map _ | rfl) | exact len_nil rfl sel109 rfl) ?_
  refine s_rd _ rfl (mv_d (.inl rfl) rfl) ?_
  refine tops_nil ?_
  refine twp_norm [0, 3, 9, 10, 11] (sub_d rfl (sub_d rfl (sub_d rfl (sub_d rfl (sub_d rfl .nil))))) (blk_nil rfl) ?_
  refine twp_block ?_
  refine twp_whileK (fun i => ([(3, .d (.int .i64 ((flatTo xss i).length : Int))), (11, .d (.int .i64 ((i : Nat) : Int)))] : Fr)) (fun i => ([] : List (Nat × Blk))) (fun i => i ≤ xss.length) (fun i => xss.length - i) [3, 11] [0, 9, 10] [] 0 (by decide) (fun i hi => absurd hi (Nat.not_lt_zero i)) (Nat.zero_le _) (sub_d rfl (sub_d rfl (sub_d rfl .nil))) rfl (by rw [flat_zero]; rfl) (blk_nil rfl) rfl ?_
  rintro i hok
  refine twp_norm [3, 11, 0, 9, 10] (sub_d rfl (sub_d rfl (sub_d rfl (sub_d rfl (sub_d rfl .nil))))) (blk_nil rfl) ?_
  refine twp_rseq ?_
  refine s_rd _ rfl (cmp_int rfl rfl rfl rfl) ?_
  refine tops_nil ?_
  refine twp_norm [0, 3, 9, 10, 11, 12] (sub_d rfl (sub_d rfl (sub_d rfl (sub_d rfl (sub_d rfl (sub_d rfl .nil)))))) (blk_nil rfl) ?_
  refine twp_seq ?_
  refine twp_cond _ rfl (fun hlt => ?_) (fun hlt => ?_)
  · have hlt : i < xss.length := by simpa using hlt
    obtain ⟨x, hx⟩ : ∃ x, (xss)[i]? = some x := ⟨_, List.getElem?_eq_getElem (by first | exact hlt | omega | (simp; omega))⟩
    have hs := flat_succ hx
    have hle := flat_le xss (i + 1)
    refine twp_skip ?_
    refine way_then ?_
    refine twp_norm [0, 3, 9, 10, 11] (sub_d rfl (sub_d rfl (sub_d rfl (sub_d rfl (sub_d rfl .nil))))) (blk_nil rfl) ?_
    refine twp_seq ?_
    refine twp_block ?_
    refine twp_rseq ?_
    refine s_rd _ rfl (index_sl rfl sel109 rfl rfl (idx_map hx)) ?_
    refine s_rd _ rfl (load_ptr rfl lay23 rfl rfl) ?_
    refine s_rd _ rfl (mv_d (.inr rfl) rfl) ?_
    refine tops_nil ?_
    refine twp_norm [0, 3, 5, 9, 10, 11] (sub_d rfl (sub_d rfl (sub_d rfl (sub_d rfl (sub_d rfl (sub_d rfl .nil)))))) (blk_nil rfl) ?_
    refine twp_rseq ?_
    refine s_rd _ rfl (mv_d (.inl rfl) rfl) ?_
    refine s_rd _ rfl (mv_d (.inl rfl) rfl) ?_
    refine s_rd _ rfl (by first | exact len_d rfl sel23 rfl (by first | exact List.length_map _ | rfl) | exact len_nil rfl sel23 rfl) ?_
    refine s_rd _ rfl (arith_to (r := ((flatTo xss (i + 1)).length : Int)) rfl rfl rfl rfl (by rw [hs]; simp) (by omega)) ?_
    refine s_rd _ rfl (mv_d (.inr rfl) rfl) ?_
    refine tops_nil ?_
    refine twp_norm [0, 3, 9, 10, 11] (sub_d rfl (sub_d rfl (sub_d rfl (sub_d rfl (sub_d rfl .nil))))) (blk_nil rfl) ?_
    refine twp_rseq ?_
    refine s_rd _ rfl (mv_d (.inl rfl) rfl) ?_
    refine s_rd _ rfl (cmp_int rfl rfl rfl rfl) ?_
    refine tops_nil ?_
    refine twp_norm [0, 3, 9, 10, 11, 20] (sub_d rfl (sub_d rfl (sub_d rfl (sub_d rfl (sub_d rfl (sub_d rfl .nil)))))) (blk_nil rfl) ?_
    refine twp_cond _ rfl (fun hneg => ?_) (fun hneg => ?_)
    · exact absurd (of_decide_eq_true hneg) (by omega)
    · refine twp_skip ?_
      refine way_block ?_
      refine way_then ?_
      refine twp_norm [0, 3, 9, 10, 11] (sub_d rfl (sub_d rfl (sub_d rfl (sub_d rfl (sub_d rfl .nil))))) (blk_nil rfl) ?_
      refine twp_region ?_
      refine s_rd _ rfl (arith_ok rfl rfl rfl rfl (by first | omega | (constructor <;> omega))) ?_
      refine s_rd _ rfl (mv_d (.inl rfl) rfl) ?_
      refine tops_nil ?_
      refine way_then ?_
      exact ⟨(i + 1), [], by decide, (fun i hi => absurd hi (Nat.not_lt_zero i)), (by omega), (by omega), rfl⟩
  · have hge : ¬ i < xss.length := by simpa using hlt
    have hi : i = xss.length := by omega
    refine twp_exit ?_
    refine way_thenExit ?_
    refine way_thenExit ?_
    refine way_here ?_
    refine way_then ?_
    refine twp_norm [0, 3] (sub_d rfl (sub_d rfl .nil)) (blk_nil rfl) ?_
    refine twp_rseq ?_
    refine s_rd _ rfl (mv_d (.inl rfl) rfl) ?_
    refine s_callD rfl rfl rfl (slices_Concat_intGrow _ (by have := flat_le xss i; omega) (fun _ => false)) rfl rfl ?_
    refine s_rd _ rfl (mv_msl (.inr rfl) rfl) ?_
    refine tops_nil ?_
    refine twp_norm [0, 6] (sub_d rfl (sub_msl rfl .nil)) (blk_flat rfl (blk_nil rfl)) ?_
    refine twp_seq ?_
    refine twp_rseq ?_
    refine s_rd _ rfl (mv_d (.inl rfl) rfl) ?_
    refine s_rd _ rfl (by first | exact len_d rfl sel109 rfl (by first | exact List.length_map _ | rfl) | exact len_nil rfl sel109 rfl) ?_
    refine s_rd _ rfl (mv_d (.inl rfl) rfl) ?_
    refine tops_nil ?_
    refine twp_norm [6, 25, 26, 27] (sub_msl rfl (sub_d rfl (sub_d rfl (sub_d rfl .nil)))) (blk_flat rfl (blk_nil rfl)) ?_
    refine twp_block ?_
    refine twp_whileK (fun i => ([(6, .msl 0 1 0 (flatTo xss i).length), (27, .d (.int .i64 ((i : Nat) : Int)))] : Fr)) (fun i => ([(0, .flat 3 1 ((flatTo xss i).map (D.int .i64)))] : List (Nat × Blk))) (fun i => i ≤ xss.length) (fun i => xss.length - i) [6, 27] [25, 26] [0] 0 (by decide) (fun i hi => absurd hi (Nat.not_lt_zero i)) (Nat.zero_le _) (sub_d rfl (sub_d rfl .nil)) rfl (by rw [flat_zero]; rfl) (blk_flat rfl (blk_nil rfl)) (by rw [flat_zero]; rfl) ?_
    rintro i hok
    refine twp_norm [6, 27, 25, 26] (sub_msl rfl (sub_d rfl (sub_d rfl (sub_d rfl .nil)))) (blk_flat rfl (blk_nil rfl)) ?_
    refine twp_rseq ?_
    refine s_rd _ rfl (cmp_int rfl rfl rfl rfl) ?_
    refine tops_nil ?_
    refine twp_norm [6, 25, 26, 27, 28] (sub_msl rfl (sub_d rfl (sub_d rfl (sub_d rfl (sub_d rfl .nil))))) (blk_flat rfl (blk_nil rfl)) ?_
    refine twp_seq ?_
    refine twp_cond _ rfl (fun hlt => ?_) (fun hlt => ?_)
    · have hlt : i < xss.length := by simpa using hlt
      obtain ⟨x, hx⟩ : ∃ x, (xss)[i]? = some x := ⟨_, List.getElem?_eq_getElem (by first | exact hlt | omega | (simp; omega))⟩
      have hs := flat_succ hx
      have hle := flat_le xss (i + 1)
      have hsl : (flatTo xss (i + 1)).length = (flatTo xss i).length + x.length := by rw [hs]; simp
      refine twp_skip ?_
      refine way_then ?_
      refine twp_norm [6, 25, 26, 27] (sub_msl rfl (sub_d rfl (sub_d rfl (sub_d rfl .nil)))) (blk_flat rfl (blk_nil rfl)) ?_
      refine twp_seq ?_
      refine twp_block ?_
      refine twp_rseq ?_
      refine s_rd _ rfl (index_sl rfl sel109 rfl rfl (idx_map hx)) ?_
      refine s_rd _ rfl (load_ptr rfl lay23 rfl rfl) ?_
      refine s_rd _ rfl (mv_d (.inr rfl) rfl) ?_
      refine tops_nil ?_
      refine twp_norm [6, 8, 25, 26, 27] (sub_msl rfl (sub_d rfl (sub_d rfl (sub_d rfl (sub_d rfl .nil))))) (blk_flat rfl (blk_nil rfl)) ?_
      refine twp_region ?_
      refine s_rd _ rfl (mv_msl (.inl rfl) rfl) ?_
      refine s_rd _ rfl (mv_d (.inl rfl) rfl) ?_
      refine s_append (m := (flatTo xss (i + 1)).length) (ds := x.map (D.int .i64)) (es' := (flatTo xss (i + 1)).map (D.int .i64)) rfl sel23 zero3 rfl rfl rfl (by simp) (fun h => absurd h (Nat.not_lt_zero _)) rfl ⟨rfl, (by first | rfl | (simp [List.map_take, List.map_drop]; done) | (rw [← List.map_drop, List.take_of_length_le (by simp)]))⟩ (by rw [hs]; simp) (by simp; omega) (by omega) (by omega) rfl rfl ?_
      refine s_rd _ rfl (mv_msl (.inr rfl) rfl) ?_
      refine tops_nil ?_
      refine way_block ?_
      refine way_then ?_
      refine twp_norm [6, 25, 26, 27] (sub_msl rfl (sub_d rfl (sub_d rfl (sub_d rfl .nil)))) (blk_flat rfl (blk_nil rfl)) ?_
      refine twp_region ?_
      refine s_rd _ rfl (arith_ok rfl rfl rfl rfl (by first | omega | (constructor <;> omega))) ?_
      refine s_rd _ rfl (mv_d (.inl rfl) rfl) ?_
      refine tops_nil ?_
      refine way_then ?_
      exact ⟨(i + 1), [0], by decide, (fun i hi => absurd hi (Nat.not_lt_zero i)), (by omega), (by omega), rfl⟩
    · have hge : ¬ i < xss.length := by simpa using hlt
      have hi : i = xss.length := by omega
      have hall := flat_all hge
      refine twp_exit ?_
      refine way_thenExit ?_
      refine way_thenExit ?_
      refine way_here ?_
      refine way_then ?_
      refine twp_norm [6] (sub_msl rfl .nil) (blk_flat rfl (blk_nil rfl)) ?_
      refine twp_rseq ?_
      refine s_rd _ rfl (mv_msl (.inl rfl) rfl) ?_
      refine s_rd _ rfl (mv_msl (.inr rfl) rfl) ?_
      refine tops_nil ?_
      refine twp_norm [2] (sub_msl rfl .nil) (blk_flat rfl (blk_nil rfl)) ?_
      refine twp_ret ?_
      rw [hall]
      exact ⟨_, [0], res rfl, by decide, fun i hi => absurd hi (Nat.not_lt_zero i), rfl, rfl⟩

theorem slices_Concat_int_row {p0 : List (List Int)} {r : List Int} (hm : slices_Concat_int p0 = some r) : Ret Try.prog 79 [] (fun _ => false) ([.sl 1 (p0.map (fun l => D.sl 1 (l.map (D.int .i64))))].map .d) (.msl 0 1 0 r.length) [.flat 3 1 (r.map (D.int .i64))] := by
  unfold slices_Concat_int at hm
  obtain ⟨g, hm⟩ := guard_inv hm
  obtain rfl := Option.some.inj hm
  exact slices_Concat_intConcat p0 g.1 g.2 (fun _ => false)

theorem slices_Concat_int_c {p0 : List (List Int)} {r : List Int} (hm : slices_Concat_int p0 = some r) : RetN Try.prog 79 [.sl 1 (p0.map (fun l => D.sl 1 (l.map (D.int .i64))))] (.sl 1 (r.map (D.int .i64))) := by
  unfold slices_Concat_int at hm
  obtain ⟨g, hm⟩ := guard_inv hm
  obtain rfl := Option.some.inj hm
  exact .flat (slices_Concat_intConcat p0 g.1 g.2 (fun _ => false)) (by rw [List.length_map]) (fun e he => by obtain ⟨x, _, rfl⟩ := List.mem_map.1 he; rfl)

theorem table_routeRight_c {p0 : Table} {p1 : Route} {r : Bool} (hm : table_routeRight p0 p1 = some r) : RetN Try.prog 68 [p0.enc, p1.enc] (.bool (r)) := by
  refine .unit (ret_bodyS callB68 Try.func68 rfl Try.ntmps68 rfl rfl (fun wX gX => ?_)) rfl
  unfold table_routeRight at hm
  refine w_norm [0, 1] rfl rfl ?_
  refine twp_rseq ?_
  refine s_bx 0 rfl rfl rfl ?_
  refine s_bx 1 rfl rfl rfl ?_
  refine s_a tab_ok rfl ?_
  refine tops_nil ?_
  refine w_norm [2, 3] rfl rfl ?_
  refine twp_seq ?_
  refine w_joinM hm (fun x1 => ([(26, .d (.bool (x1)))] : Fr)) (fun x1 => ([] : List (Nat × Blk))) [26] [2, 3] rfl (fun z2 hm => ?_) (fun x1 hm => ?_)
  · refine twp_region ?_
    iterate 4 (refine s_a tab_ok rfl ?_)
    obtain ⟨r3, hr3, hm⟩ := bind_inv hm
    refine s_x rfl rfl (rd_callRN rfl rfl (snaps_cons (.d _) (snaps_cons (.d _) snaps_nil)) (table_within_c hr3)) ?_
    refine s_a tab_ok rfl ?_
    refine s_b tab_ok rfl (fun q4 hq4 => ?_)
    cases q4
    · replace hm := iteB_F hq4 hm
      iterate 3 (refine s_a tab_ok rfl ?_)
      refine s_b tab_ok rfl (fun q5 hq5 => ?_)
      cases q5
      · replace hm := iteN_F hq5 hm
        iterate 8 (refine s_a tab_ok rfl ?_)
        refine tops_nil ?_
        refine way_then ?_
        exact ⟨_, [0, 1], (Option.some.inj hm).symm, rfl, k0, rfl⟩
      · replace hm := iteN_T hq5 hm
        iterate 4 (refine s_a tab_ok rfl ?_)
        obtain ⟨r6, hr6, hm⟩ := bind_inv hm
        refine s_x rfl rfl (rd_callRN rfl rfl (snaps_cons (.d _) (snaps_cons (.d _) snaps_nil)) (table_within_c hr6)) ?_
        iterate 3 (refine s_a tab_ok rfl ?_)
        refine tops_nil ?_
        refine way_then ?_
        exact ⟨_, [0, 1], (Option.some.inj hm).symm, rfl, k0, rfl⟩
    · replace hm := iteB_T hq4 hm
      iterate 12 (refine s_a tab_ok rfl ?_)
      refine tops_nil ?_
      refine way_then ?_
      exact ⟨_, [0, 1], (Option.some.inj hm).symm, rfl, k0, rfl⟩
  · refine w_norm [2, 3, 26] rfl rfl ?_
    refine twp_cond _ rfl (fun h7 => ?_) (fun h7 => ?_)
    · replace hm := iteB_T h7 hm
      refine twp_rseq ?_
      refine s_a tab_ok rfl ?_
      refine tops_nil ?_
      refine w_norm [4] rfl rfl ?_
      refine twp_ret ?_
      refine way_thenRet ?_
      obtain rfl := Option.some.inj hm
      exact EndsS.one _ rfl (.d _) (.refl _)
    · replace hm := iteB_F h7 hm
      refine twp_skip ?_
      refine way_then ?_
      refine w_norm [2, 3] rfl rfl ?_
      refine twp_seq ?_
      refine w_cut [(42, .d (.bool (((decide ((p1.path.length : Int) < (1 : Int))) || ((decide ((12 : Int) < (p1.path.length : Int))) || (decide ((p1.sections.length : Int) = (0 : Int))))))))] [42] [2, 3] rfl ?_ ?_
      · refine twp_region ?_
        iterate 2 (refine s_a tab_ok rfl ?_)
        refine s_x rfl rfl (x_len tab_ok rfl rfl rfl) ?_
        refine s_a tab_ok rfl ?_
        refine s_b tab_ok rfl (fun q8 hq8 => ?_)
        cases q8
        · iterate 2 (refine s_a tab_ok rfl ?_)
          refine s_x rfl rfl (x_len tab_ok rfl rfl rfl) ?_
          iterate 2 (refine s_a tab_ok rfl ?_)
          refine s_b tab_ok rfl (fun q9 hq9 => ?_)
          cases q9
          · iterate 2 (refine s_a tab_ok rfl ?_)
            refine s_x rfl rfl (x_len tab_ok rfl rfl rfl) ?_
            iterate 2 (refine s_a tab_ok rfl ?_)
            refine tops_nil ?_
            refine way_then ?_
            exact ⟨[0, 1], rfl, k0, st_eq (fr_cons (av_bool (by simp [hq8, hq9])) rfl) rfl⟩
          · iterate 5 (refine s_a tab_ok rfl ?_)
            refine tops_nil ?_
            refine way_then ?_
            exact ⟨[0, 1], rfl, k0, st_eq (fr_cons (av_bool (by simp [hq8, hq9])) rfl) rfl⟩
        · iterate 11 (refine s_a tab_ok rfl ?_)
          refine tops_nil ?_
          refine way_then ?_
          exact ⟨[0, 1], rfl, k0, st_eq (fr_cons (av_bool (by simp [hq8])) rfl) rfl⟩
      · refine w_norm [2, 3, 42] rfl rfl ?_
        refine twp_cond _ rfl (fun h10 => ?_) (fun h10 => ?_)
        · replace hm := iteB_T h10 hm
          refine twp_rseq ?_
          refine s_a tab_ok rfl ?_
          refine tops_nil ?_
          refine w_norm [4] rfl rfl ?_
          refine twp_ret ?_
          refine way_thenRet ?_
          obtain rfl := Option.some.inj hm
          exact EndsS.one _ rfl (.d _) (.refl _)
        · replace hm := iteB_F h10 hm
          refine twp_skip ?_
          refine way_then ?_
          refine w_norm [2, 3] rfl rfl ?_
          refine twp_rseq ?_
          refine s_ala (f := D.bool) (x := false) 2 23 rfl rfl zero94 rfl rfl rfl ?_
          refine tops_nil ?_
          refine w_norm [2, 3, 5] rfl rfl ?_
          refine w_joinS hm (fun b11 => ([] : Fr)) (fun b11 => ([(2, .flat 94 1 (b11.map D.bool))] : List (Nat × Blk))) [] [2, 3] rfl (fun z12 hm hz12 => ?_) (fun b11 hm => ?_)
          · refine twp_rseq ?_
            iterate 4 (refine s_a tab_ok rfl ?_)
            refine s_x rfl rfl (x_lit [.tmp 44, .tmp 46] tab_ok rfl rfl zero23 rfl rfl rfl rfl rfl) ?_
            obtain ⟨r13, hr13, hm⟩ := bind_inv hm
            refine s_x rfl rfl (rd_callRN rfl rfl (snaps_cons (.d _) snaps_nil) (slices_Concat_int_c hr13)) ?_
            refine s_x rfl rfl (x_len tab_ok rfl rfl rfl) ?_
            refine s_a tab_ok rfl ?_
            refine tops_nil ?_
            refine w_norm [2, 3, 5, 48, 49, 50] rfl rfl ?_
            refine twp_block ?_
            refine w_loop hm (fun (x17, b18) => ([(50, .d (.int .i64 x17))] : Fr)) (fun (x17, b18) => ([(2, .flat 94 1 (b18.map D.bool))] : List (Nat × Blk))) [50] [2, 3, 5, 48, 49] [0, 1, 2] rfl k0 rfl rfl rfl rfl rfl (fun s z19 hm hz19 => ?_)
            obtain ⟨x17, b18⟩ := s
            refine w_norm [2, 3, 5, 48, 49, 50] rfl rfl ?_
            refine twp_rseq ?_
            refine s_a tab_ok rfl ?_
            refine tops_nil ?_
            refine w_norm [2, 3, 5, 48, 49, 50, 51] rfl rfl ?_
            refine twp_seq ?_
            refine twp_cond _ rfl (fun h20 => ?_) (fun h20 => ?_)
            · replace hm := ite_T h20 hm
              refine twp_skip ?_
              refine way_then ?_
              refine w_norm [2, 3, 5, 48, 49, 50] rfl rfl ?_
              refine twp_seq ?_
              refine twp_block ?_
              refine twp_rseq ?_
              obtain ⟨e21, he21, hm⟩ := get_inv hm
              refine s_x rfl rfl (x_ix tab_ok rfl rfl rfl rfl he21) ?_
              iterate 2 (refine s_a tab_ok rfl ?_)
              refine tops_nil ?_
              refine w_norm [2, 3, 5, 7, 48, 49, 50] rfl rfl ?_
              refine twp_seq ?_
              refine w_joinM hm (fun x22 => ([(63, .d (.bool (x22)))] : Fr)) (fun x22 => ([] : List (Nat × Blk))) [63] [2, 3, 5, 7, 48, 49, 50] rfl (fun z23 hm => ?_) (fun x22 hm => ?_)
              · refine twp_region ?_
                iterate 3 (refine s_a tab_ok rfl ?_)
                obtain ⟨r24, hr24, hm⟩ := bind_inv hm
                refine s_x rfl rfl (rd_callRN rfl rfl (snaps_cons (.d _) (snaps_cons (.d _) snaps_nil)) (table_within_c hr24)) ?_
                refine s_a tab_ok rfl ?_
                refine s_b tab_ok rfl (fun q25 hq25 => ?_)
                cases q25
                · replace hm := iteB_F hq25 hm
                  refine s_a tab_ok rfl ?_
                  obtain ⟨g27, hm⟩ := guard_inv hm
                  obtain ⟨e26, he26, hm⟩ := get_inv hm
                  refine s_x rfl rfl (x_ixa rfl asel94 rfl rfl he26 g27) ?_
                  refine s_x rfl rfl (x_ldo tab_ok rfl rfl rfl rfl he26.2 rfl) ?_
                  refine s_a tab_ok rfl ?_
                  refine tops_nil ?_
                  refine way_then ?_
                  exact ⟨_, [0, 1, 2], (Option.some.inj hm).symm, rfl, k0, rfl⟩
                · replace hm := iteB_T hq25 hm
                  iterate 4 (refine s_a tab_ok rfl ?_)
                  refine tops_nil ?_
                  refine way_then ?_
                  exact ⟨_, [0, 1, 2], (Option.some.inj hm).symm, rfl, k0, rfl⟩
              · refine w_norm [2, 3, 5, 7, 48, 49, 50, 63] rfl rfl ?_
                refine twp_cond _ rfl (fun h28 => ?_) (fun h28 => ?_)
                · replace hm := iteB_T h28 hm
                  refine twp_rseq ?_
                  refine s_a tab_ok rfl ?_
                  refine tops_nil ?_
                  refine w_norm [4] rfl rfl ?_
                  refine twp_ret ?_
                  refine way_thenRet ?_
                  refine way_blockRet ?_
                  refine way_thenRet ?_
                  obtain ⟨v29, hm, hz⟩ := inr_inv hm
                  rw [hz19 _ hz] at hm
                  refine way_thenRet ?_
                  refine way_blockRet ?_
                  obtain ⟨v30, hm, hz⟩ := inr_inv hm
                  rw [hz12 _ hz] at hm
                  refine way_thenRet ?_
                  obtain rfl := Option.some.inj hm
                  exact EndsS.one _ rfl (.d _) (.refl _)
                · replace hm := iteB_F h28 hm
                  refine twp_skip ?_
                  refine way_then ?_
                  refine w_norm [2, 3, 5, 7, 48, 49, 50] rfl rfl ?_
                  refine twp_region ?_
                  refine s_a tab_ok rfl ?_
                  obtain ⟨g32, hm⟩ := guard_inv hm
                  obtain ⟨e31, he31, hm⟩ := get_inv hm
                  refine s_x rfl rfl (x_ixa rfl asel94 rfl rfl he31 g32) ?_
                  refine s_sto (x' := true) tab_ok rfl rfl rfl rfl rfl he31.2 rfl rfl rfl ?_
                  refine tops_nil ?_
                  refine way_block ?_
                  refine way_then ?_
                  refine w_norm [2, 3, 5, 48, 49, 50] rfl rfl ?_
                  refine twp_region ?_
                  obtain ⟨g33, hm⟩ := guard_inv hm
                  refine s_x rfl rfl (x_ar rfl rfl rfl rfl g33) ?_
                  refine s_a tab_ok rfl ?_
                  refine tops_nil ?_
                  refine way_then ?_
                  exact ⟨_, [0, 1, 2], (Option.some.inj hm).symm, rfl, k0, rfl⟩
            · replace hm := ite_F h20 hm
              refine twp_exit ?_
              refine way_thenExit ?_
              obtain ⟨v34, hm, hz⟩ := inr_inv hm
              rw [hz19 _ hz] at hm
              refine way_thenExit ?_
              refine way_here ?_
              refine way_then ?_
              exact ⟨_, [0, 1, 2], (Option.some.inj hm).symm, rfl, k0, rfl⟩
          · refine w_norm [2, 3] rfl rfl ?_
            refine w_joinM hm (fun x35 => ([(4, .d (.bool (x35)))] : Fr)) (fun x35 => ([] : List (Nat × Blk))) [4] [] rfl (fun z36 hm => ?_) (fun x35 hm => ?_)
            · refine twp_region ?_
              iterate 4 (refine s_a tab_ok rfl ?_)
              obtain ⟨r37, hr37, hm⟩ := bind_inv hm
              refine s_x rfl rfl (rd_callRN rfl rfl (snaps_cons (.d _) (snaps_cons (.d _) snaps_nil)) (table_within_c hr37)) ?_
              refine s_b tab_ok rfl (fun q38 hq38 => ?_)
              cases q38
              · replace hm := iteB_F hq38 hm
                iterate 5 (refine s_a tab_ok rfl ?_)
                refine tops_nil ?_
                refine way_then ?_
                exact ⟨_, [0, 1, 2], (Option.some.inj hm).symm, rfl, k0, rfl⟩
              · replace hm := iteB_T hq38 hm
                iterate 5 (refine s_a tab_ok rfl ?_)
                refine tops_nil ?_
                refine way_then ?_
                exact ⟨_, [0, 1, 2], (Option.some.inj hm).symm, rfl, k0, rfl⟩
            · refine w_norm [4] rfl rfl ?_
              refine twp_ret ?_
              obtain rfl := Option.some.inj hm
              exact EndsS.one _ rfl (.d _) (.refl _)

theorem slices_Index_int_c {p0 : (List Int)} {p1 : Int} {r : Int} (hm : slices_Index_int p0 p1 = some r) : RetN Try.prog 55 [.sl 1 (p0.map (D.int .i64)), .int .i64 p1] (.int .i64 r) := by
  refine .unit (ret_bodyS callB55 Try.func55 rfl Try.ntmps55 rfl rfl (fun wX gX => ?_)) rfl
  unfold slices_Index_int at hm
  refine w_norm [0, 1] rfl rfl ?_
  refine twp_rseq ?_
  refine s_a tab_ok rfl ?_
  refine tops_nil ?_
  refine w_norm [0, 1] rfl rfl ?_
  refine w_joinS hm (fun _ => ([] : Fr)) (fun _ => ([] : List (Nat × Blk))) [] [] rfl (fun z1 hm hz1 => ?_) (fun j hm => ?_)
  · refine twp_rseq ?_
    refine s_a tab_ok rfl ?_
    refine s_x rfl rfl (x_len tab_ok rfl rfl rfl) ?_
    refine s_a tab_ok rfl ?_
    refine tops_nil ?_
    refine w_norm [0, 1, 7, 8] rfl rfl ?_
    refine twp_block ?_
    refine w_loop hm (fun x3 => ([(8, .d (.int .i64 x3))] : Fr)) (fun x3 => ([] : List (Nat × Blk))) [8] [0, 1, 7] [] rfl k0 rfl rfl rfl rfl rfl (fun x3 z4 hm hz4 => ?_)
    refine w_norm [0, 1, 7, 8] rfl rfl ?_
    refine twp_rseq ?_
    refine s_a tab_ok rfl ?_
    refine tops_nil ?_
    refine w_norm [0, 1, 7, 8, 9] rfl rfl ?_
    refine twp_seq ?_
    refine twp_cond _ rfl (fun h5 => ?_) (fun h5 => ?_)
    · replace hm := ite_T h5 hm
      refine twp_skip ?_
      refine way_then ?_
      refine w_norm [0, 1, 7, 8] rfl rfl ?_
      refine twp_seq ?_
      refine twp_block ?_
      refine twp_rseq ?_
      iterate 2 (refine s_a tab_ok rfl ?_)
      refine tops_nil ?_
      refine w_norm [0, 1, 5, 7, 8] rfl rfl ?_
      refine twp_rseq ?_
      iterate 3 (refine s_a tab_ok rfl ?_)
      obtain ⟨e6, he6, hm⟩ := get_inv hm
      refine s_x rfl rfl (x_ix tab_ok rfl rfl rfl rfl he6) ?_
      iterate 2 (refine s_a tab_ok rfl ?_)
      refine tops_nil ?_
      refine w_norm [0, 1, 5, 7, 8, 16] rfl rfl ?_
      refine twp_cond _ rfl (fun h7 => ?_) (fun h7 => ?_)
      · replace hm := ite_T h7 hm
        refine twp_rseq ?_
        iterate 2 (refine s_a tab_ok rfl ?_)
        refine tops_nil ?_
        refine w_norm [4] rfl rfl ?_
        refine twp_ret ?_
        refine way_blockRet ?_
        refine way_thenRet ?_
        obtain ⟨v8, hm, hz⟩ := inr_inv hm
        rw [hz4 _ hz] at hm
        refine way_thenRet ?_
        refine way_blockRet ?_
        obtain ⟨v9, hm, hz⟩ := inr_inv hm
        rw [hz1 _ hz] at hm
        refine way_thenRet ?_
        obtain rfl := Option.some.inj hm
        exact EndsS.one _ rfl (.d _) (.refl _)
      · replace hm := ite_F h7 hm
        refine twp_skip ?_
        refine way_block ?_
        refine way_then ?_
        refine w_norm [0, 1, 7, 8] rfl rfl ?_
        refine twp_region ?_
        obtain ⟨g10, hm⟩ := guard_inv hm
        refine s_x rfl rfl (x_ar rfl rfl rfl rfl g10) ?_
        refine s_a tab_ok rfl ?_
        refine tops_nil ?_
        refine way_then ?_
        exact ⟨_, [], (Option.some.inj hm).symm, rfl, k0, rfl⟩
    · replace hm := ite_F h5 hm
      refine twp_exit ?_
      refine way_thenExit ?_
      obtain ⟨v11, hm, hz⟩ := inr_inv hm
      rw [hz4 _ hz] at hm
      refine way_thenExit ?_
      refine way_here ?_
      refine way_then ?_
      exact ⟨_, [], (Option.some.inj hm).symm, rfl, k0, rfl⟩
  · refine w_norm [] rfl rfl ?_
    refine twp_rseq ?_
    refine s_a tab_ok rfl ?_
    refine tops_nil ?_
    refine w_norm [4] rfl rfl ?_
    refine twp_ret ?_
    obtain rfl := Option.some.inj hm
    exact EndsS.one _ rfl (.d _) (.refl _)

theorem table_Index_c {p0 : Table} {p1 : Int} {r : Int} (hm : table_Index p0 p1 = some r) : RetN Try.prog 35 [p0.enc, .int .i64 p1] (.int .i64 r) := by
  refine .unit (ret_bodyS callB35 Try.func35 rfl Try.ntmps35 rfl rfl (fun wX gX => ?_)) rfl
  unfold table_Index at hm
  refine w_norm [0, 1] rfl rfl ?_
  refine twp_rseq ?_
  refine s_bx 0 rfl rfl rfl ?_
  refine s_a tab_ok rfl ?_
  refine tops_nil ?_
  refine w_norm [1, 2] rfl rfl ?_
  refine twp_rseq ?_
  iterate 3 (refine s_a tab_ok rfl ?_)
  obtain ⟨r1, hr1, hm⟩ := bind_inv hm
  refine s_x rfl rfl (rd_callRN rfl rfl (snaps_cons (.d _) (snaps_cons (.d _) snaps_nil)) (slices_Index_int_c hr1)) ?_
  refine s_a tab_ok rfl ?_
  refine tops_nil ?_
  refine w_norm [4] rfl rfl ?_
  refine twp_ret ?_
  obtain rfl := Option.some.inj hm
  exact EndsS.one _ rfl (.d _) (.refl _)

theorem table_settingsRight_c {p0 : Table} {p1 : (List Setting)} {r : Bool} (hm : table_settingsRight p0 p1 = some r) : RetN Try.prog 69 [p0.enc, .sl 2 (p1.map Setting.enc)] (.bool (r)) := by
  refine .unit (ret_bodyS callB69 Try.func69 rfl Try.ntmps69 rfl rfl (fun wX gX => ?_)) rfl
  unfold table_settingsRight at hm
  refine w_norm [0, 1] rfl rfl ?_
  refine twp_rseq ?_
  refine s_bx 0 rfl rfl rfl ?_
  refine s_a tab_ok rfl ?_
  refine tops_nil ?_
  refine w_norm [1, 2] rfl rfl ?_
  refine w_joinS hm (fun _ => ([] : Fr)) (fun _ => ([] : List (Nat × Blk))) [] [] rfl (fun z1 hm hz1 => ?_) (fun j hm => ?_)
  · refine twp_rseq ?_
    refine s_a tab_ok rfl ?_
    refine s_x rfl rfl (x_len tab_ok rfl rfl rfl) ?_
    refine s_a tab_ok rfl ?_
    refine tops_nil ?_
    refine w_norm [1, 2, 7, 8, 9] rfl rfl ?_
    refine twp_block ?_
    refine w_loop hm (fun x3 => ([(9, .d (.int .i64 x3))] : Fr)) (fun x3 => ([] : List (Nat × Blk))) [9] [1, 2, 7, 8] [0] rfl k0 rfl rfl rfl rfl rfl (fun x3 z4 hm hz4 => ?_)
    refine w_norm [1, 2, 7, 8, 9] rfl rfl ?_
    refine twp_rseq ?_
    refine s_a tab_ok rfl ?_
    refine tops_nil ?_
    refine w_norm [1, 2, 7, 8, 9, 10] rfl rfl ?_
    refine twp_seq ?_
    refine twp_cond _ rfl (fun h5 => ?_) (fun h5 => ?_)
    · replace hm := ite_T h5 hm
      refine twp_skip ?_
      refine way_then ?_
      refine w_norm [1, 2, 7, 8, 9] rfl rfl ?_
      refine twp_seq ?_
      refine twp_block ?_
      refine twp_rseq ?_
      refine s_a tab_ok rfl ?_
      obtain ⟨e6, he6, hm⟩ := get_inv hm
      refine s_x rfl rfl (x_ix tab_ok rfl rfl rfl rfl he6) ?_
      refine s_a tab_ok rfl ?_
      refine s_al 1 rfl rfl zero54 rfl ?_
      iterate 2 (refine s_a tab_ok rfl ?_)
      refine tops_nil ?_
      refine w_norm [1, 2, 5, 6, 7, 8, 9] rfl rfl ?_
      refine twp_seq ?_
      refine w_joinM hm (fun x7 => ([(33, .d (.bool (x7)))] : Fr)) (fun x7 => ([] : List (Nat × Blk))) [33] [1, 2, 6, 7, 8, 9] rfl (fun z8 hm => ?_) (fun x7 hm => ?_)
      · refine twp_draw follows  ?_
        iterate 2 (refine d_a [0, 1] tab_ok rfl ?_)
        refine d_b [0, 1] tab_ok rfl (fun q9 hq9 => ?_)
        cases q9
        · replace hm := ite_F hq9 hm
          iterate 14 (refine d_a [0, 1] tab_ok rfl ?_)
          obtain ⟨r10, hr10, hm⟩ := bind_inv hm
          refine d_x [0, 1] rfl rfl (rd_callRN rfl rfl (snaps_cons (.d _) (snaps_cons (.d _) snaps_nil)) (table_Index_c hr10)) ?_
          iterate 2 (refine d_a [0, 1] tab_ok rfl ?_)
          refine d_tail ?_ (by kernel_rfl)
          refine tops_nil ?_
          refine way_then ?_
          exact ⟨_, [0, 1], (Option.some.inj hm).symm, rfl, k0, rfl⟩
        · replace hm := ite_T hq9 hm
          iterate 4 (refine d_a [0, 1] tab_ok rfl ?_)
          obtain ⟨g11, hm⟩ := guard_inv hm
          refine d_x [0, 1] rfl rfl (x_ar rfl rfl rfl rfl g11) ?_
          obtain ⟨e12, he12, hm⟩ := get_inv hm
          refine d_x [0, 1] rfl rfl (x_ix tab_ok rfl rfl rfl rfl he12) ?_
          iterate 4 (refine d_a [0, 1] tab_ok rfl ?_)
          refine d_b [0, 1] tab_ok rfl (fun q13 hq13 => ?_)
          cases q13
          · replace hm := ite_F hq13 hm
            iterate 3 (refine d_a [0, 1] tab_ok rfl ?_)
            obtain ⟨r14, hr14, hm⟩ := bind_inv hm
            refine d_x [0, 1] rfl rfl (rd_callRN rfl rfl (snaps_cons (.d _) (snaps_cons (.d _) snaps_nil)) (table_Index_c hr14)) ?_
            iterate 2 (refine d_a [0, 1] tab_ok rfl ?_)
            refine d_tail ?_ (by kernel_rfl)
            refine tops_nil ?_
            refine way_then ?_
            exact ⟨_, [0, 1], (Option.some.inj hm).symm, rfl, k0, rfl⟩
          · replace hm := ite_T hq13 hm
            iterate 6 (refine d_a [0, 1] tab_ok rfl ?_)
            refine d_tail ?_ (by kernel_rfl)
            refine tops_nil ?_
            refine way_then ?_
            exact ⟨_, [0, 1], (Option.some.inj hm).symm, rfl, k0, rfl⟩
      · refine w_norm [1, 2, 6, 7, 8, 9, 33] rfl rfl ?_
        refine twp_cond _ rfl (fun h15 => ?_) (fun h15 => ?_)
        · replace hm := iteB_T h15 hm
          refine twp_rseq ?_
          refine s_a tab_ok rfl ?_
          refine tops_nil ?_
          refine w_norm [4] rfl rfl ?_
          refine twp_ret ?_
          refine way_thenRet ?_
          refine way_blockRet ?_
          refine way_thenRet ?_
          obtain ⟨v16, hm, hz⟩ := inr_inv hm
          rw [hz4 _ hz] at hm
          refine way_thenRet ?_
          refine way_blockRet ?_
          obtain ⟨v17, hm, hz⟩ := inr_inv hm
          rw [hz1 _ hz] at hm
          refine way_thenRet ?_
          obtain rfl := Option.some.inj hm
          exact EndsS.one _ rfl (.d _) (.refl _)
        · replace hm := iteB_F h15 hm
          refine twp_skip ?_
          refine way_then ?_
          refine w_norm [1, 2, 6, 7, 8, 9] rfl rfl ?_
          refine w_cut [(41, .d (.bool (((!(decide (e6.pos = (1 : Int)))) && (!(decide (e6.pos = (2 : Int))))))))] [41] [1, 2, 7, 8, 9] rfl ?_ ?_
          · refine twp_region ?_
            iterate 3 (refine s_a tab_ok rfl ?_)
            refine s_b tab_ok rfl (fun q18 hq18 => ?_)
            cases q18
            · iterate 4 (refine s_a tab_ok rfl ?_)
              refine tops_nil ?_
              refine way_then ?_
              exact ⟨[0, 1], rfl, k0, st_eq (fr_cons (av_bool (by simp [hq18])) rfl) rfl⟩
            · iterate 4 (refine s_a tab_ok rfl ?_)
              refine tops_nil ?_
              refine way_then ?_
              exact ⟨[0, 1], rfl, k0, st_eq (fr_cons (av_bool (by simp [hq18])) rfl) rfl⟩
          · refine w_norm [1, 2, 7, 8, 9, 41] rfl rfl ?_
            refine twp_cond _ rfl (fun h19 => ?_) (fun h19 => ?_)
            · replace hm := iteB_T h19 hm
              refine twp_rseq ?_
              refine s_a tab_ok rfl ?_
              refine tops_nil ?_
              refine w_norm [4] rfl rfl ?_
              refine twp_ret ?_
              refine way_blockRet ?_
              refine way_thenRet ?_
              obtain ⟨v20, hm, hz⟩ := inr_inv hm
              rw [hz4 _ hz] at hm
              refine way_thenRet ?_
              refine way_blockRet ?_
              obtain ⟨v21, hm, hz⟩ := inr_inv hm
              rw [hz1 _ hz] at hm
              refine way_thenRet ?_
              obtain rfl := Option.some.inj hm
              exact EndsS.one _ rfl (.d _) (.refl _)
            · replace hm := iteB_F h19 hm
              refine twp_skip ?_
              refine way_block ?_
              refine way_then ?_
              refine w_norm [1, 2, 7, 8, 9] rfl rfl ?_
              refine twp_region ?_
              obtain ⟨g22, hm⟩ := guard_inv hm
              refine s_x rfl rfl (x_ar rfl rfl rfl rfl g22) ?_
              refine s_a tab_ok rfl ?_
              refine tops_nil ?_
              refine way_then ?_
              exact ⟨_, [0], (Option.some.inj hm).symm, rfl, k0, rfl⟩
    · replace hm := ite_F h5 hm
      refine twp_exit ?_
      refine way_thenExit ?_
      obtain ⟨v23, hm, hz⟩ := inr_inv hm
      rw [hz4 _ hz] at hm
      refine way_thenExit ?_
      refine way_here ?_
      refine way_then ?_
      exact ⟨_, [0], (Option.some.inj hm).symm, rfl, k0, rfl⟩
  · refine w_norm [] rfl rfl ?_
    refine twp_rseq ?_
    refine s_a tab_ok rfl ?_
    refine tops_nil ?_
    refine w_norm [4] rfl rfl ?_
    refine twp_ret ?_
    obtain rfl := Option.some.inj hm
    exact EndsS.one _ rfl (.d _) (.refl _)

theorem conflict_Agree_c {p0 : (List Setting)} {p1 : (List Setting)} {r : Bool} (hm : conflict_Agree p0 p1 = some r) : RetN Try.prog 41 [.sl 2 (p0.map Setting.enc), .sl 2 (p1.map Setting.enc)] (.bool (r)) := by
  refine .unit (ret_bodyS callB41 Try.func41 rfl Try.ntmps41 rfl rfl (fun wX gX => ?_)) rfl
  unfold conflict_Agree at hm
  refine w_norm [0, 1] rfl rfl ?_
  refine twp_rseq ?_
  refine s_a tab_ok rfl ?_
  refine tops_nil ?_
  refine w_norm [0, 1] rfl rfl ?_
  refine w_joinS hm (fun _ => ([] : Fr)) (fun _ => ([] : List (Nat × Blk))) [] [] rfl (fun z1 hm hz1 => ?_) (fun j hm => ?_)
  · refine twp_rseq ?_
    refine s_a tab_ok rfl ?_
    refine s_x rfl rfl (x_len tab_ok rfl rfl rfl) ?_
    refine s_a tab_ok rfl ?_
    refine tops_nil ?_
    refine w_norm [1, 9, 10, 11] rfl rfl ?_
    refine twp_block ?_
    refine w_loop hm (fun x3 => ([(11, .d (.int .i64 x3))] : Fr)) (fun x3 => ([] : List (Nat × Blk))) [11] [1, 9, 10] [] rfl k0 rfl rfl rfl rfl rfl (fun x3 z4 hm hz4 => ?_)
    refine w_norm [1, 9, 10, 11] rfl rfl ?_
    refine twp_rseq ?_
    refine s_a tab_ok rfl ?_
    refine tops_nil ?_
    refine w_norm [1, 9, 10, 11, 12] rfl rfl ?_
    refine twp_seq ?_
    refine twp_cond _ rfl (fun h5 => ?_) (fun h5 => ?_)
    · replace hm := ite_T h5 hm
      refine twp_skip ?_
      refine way_then ?_
      refine w_norm [1, 9, 10, 11] rfl rfl ?_
      refine w_joinS hm (fun _ => ([] : Fr)) (fun _ => ([] : List (Nat × Blk))) [] [1, 9, 10, 11] rfl (fun z6 hm hz6 => ?_) (fun j hm => ?_)
      · refine twp_block ?_
        refine twp_rseq ?_
        obtain ⟨e7, he7, hm⟩ := get_inv hm
        refine s_x rfl rfl (x_ix tab_ok rfl rfl rfl rfl he7) ?_
        refine s_a tab_ok rfl ?_
        refine s_al 0 rfl rfl zero54 rfl ?_
        refine s_a tab_ok rfl ?_
        refine tops_nil ?_
        refine w_norm [1, 6, 9, 10, 11] rfl rfl ?_
        refine twp_rseq ?_
        refine s_a tab_ok rfl ?_
        refine s_x rfl rfl (x_len tab_ok rfl rfl rfl) ?_
        refine s_a tab_ok rfl ?_
        refine tops_nil ?_
        refine w_norm [1, 6, 9, 10, 11, 15, 16, 17] rfl rfl ?_
        refine twp_block ?_
        refine w_loop hm (fun x9 => ([(17, .d (.int .i64 x9))] : Fr)) (fun x9 => ([] : List (Nat × Blk))) [17] [1, 6, 9, 10, 11, 15, 16] [0] rfl k0 rfl rfl rfl rfl rfl (fun x9 z10 hm hz10 => ?_)
        refine w_norm [1, 6, 9, 10, 11, 15, 16, 17] rfl rfl ?_
        refine twp_rseq ?_
        refine s_a tab_ok rfl ?_
        refine tops_nil ?_
        refine w_norm [1, 6, 9, 10, 11, 15, 16, 17, 18] rfl rfl ?_
        refine twp_seq ?_
        refine twp_cond _ rfl (fun h11 => ?_) (fun h11 => ?_)
        · replace hm := ite_T h11 hm
          refine twp_skip ?_
          refine way_then ?_
          refine w_norm [1, 6, 9, 10, 11, 15, 16, 17] rfl rfl ?_
          refine twp_seq ?_
          refine twp_block ?_
          refine twp_rseq ?_
          obtain ⟨e12, he12, hm⟩ := get_inv hm
          refine s_x rfl rfl (x_ix tab_ok rfl rfl rfl rfl he12) ?_
          refine s_a tab_ok rfl ?_
          refine s_al 1 rfl rfl zero54 rfl ?_
          refine s_a tab_ok rfl ?_
          refine tops_nil ?_
          refine w_norm [1, 6, 8, 9, 10, 11, 15, 16, 17] rfl rfl ?_
          refine w_cut [(32, .d (.bool (((decide (e7.el = e12.el)) && (!(decide (e7.pos = e12.pos)))))))] [32] [1, 6, 9, 10, 11, 15, 16, 17] rfl ?_ ?_
          · refine twp_region ?_
            iterate 5 (refine s_a tab_ok rfl ?_)
            refine s_b tab_ok rfl (fun q13 hq13 => ?_)
            cases q13
            · iterate 6 (refine s_a tab_ok rfl ?_)
              refine tops_nil ?_
              refine way_then ?_
              exact ⟨[0, 1], rfl, k0, st_eq (fr_cons (av_bool (by simp [hq13])) rfl) rfl⟩
            · iterate 6 (refine s_a tab_ok rfl ?_)
              refine tops_nil ?_
              refine way_then ?_
              exact ⟨[0, 1], rfl, k0, st_eq (fr_cons (av_bool (by simp [hq13])) rfl) rfl⟩
          · refine w_norm [1, 6, 9, 10, 11, 15, 16, 17, 32] rfl rfl ?_
            refine twp_cond _ rfl (fun h14 => ?_) (fun h14 => ?_)
            · replace hm := iteB_T h14 hm
              refine twp_rseq ?_
              refine s_a tab_ok rfl ?_
              refine tops_nil ?_
              refine w_norm [4] rfl rfl ?_
              refine twp_ret ?_
              refine way_blockRet ?_
              refine way_thenRet ?_
              obtain ⟨v15, hm, hz⟩ := inr_inv hm
              rw [hz10 _ hz] at hm
              refine way_thenRet ?_
              refine way_blockRet ?_
              refine way_blockRet ?_
              obtain ⟨v16, hm, hz⟩ := inr_inv hm
              rw [hz6 _ hz] at hm
              refine way_thenRet ?_
              obtain ⟨v17, hm, hz⟩ := inr_inv hm
              rw [hz4 _ hz] at hm
              refine way_thenRet ?_
              refine way_blockRet ?_
              obtain ⟨v18, hm, hz⟩ := inr_inv hm
              rw [hz1 _ hz] at hm
              refine way_thenRet ?_
              obtain rfl := Option.some.inj hm
              exact EndsS.one _ rfl (.d _) (.refl _)
            · replace hm := iteB_F h14 hm
              refine twp_skip ?_
              refine way_block ?_
              refine way_then ?_
              refine w_norm [1, 6, 9, 10, 11, 15, 16, 17] rfl rfl ?_
              refine twp_region ?_
              obtain ⟨g19, hm⟩ := guard_inv hm
              refine s_x rfl rfl (x_ar rfl rfl rfl rfl g19) ?_
              refine s_a tab_ok rfl ?_
              refine tops_nil ?_
              refine way_then ?_
              exact ⟨_, [0], (Option.some.inj hm).symm, rfl, k0, rfl⟩
        · replace hm := ite_F h11 hm
          refine twp_exit ?_
          refine way_thenExit ?_
          obtain ⟨v20, hm, hz⟩ := inr_inv hm
          rw [hz10 _ hz] at hm
          refine way_thenExit ?_
          refine way_here ?_
          refine way_block ?_
          refine way_then ?_
          exact ⟨_, [], (Option.some.inj hm).symm, rfl, k0, rfl⟩
      · refine w_norm [1, 9, 10, 11] rfl rfl ?_
        refine twp_region ?_
        obtain ⟨g21, hm⟩ := guard_inv hm
        refine s_x rfl rfl (x_ar rfl rfl rfl rfl g21) ?_
        refine s_a tab_ok rfl ?_
        refine tops_nil ?_
        refine way_then ?_
        exact ⟨_, [], (Option.some.inj hm).symm, rfl, k0, rfl⟩
    · replace hm := ite_F h5 hm
      refine twp_exit ?_
      refine way_thenExit ?_
      obtain ⟨v22, hm, hz⟩ := inr_inv hm
      rw [hz4 _ hz] at hm
      refine way_thenExit ?_
      refine way_here ?_
      refine way_then ?_
      exact ⟨_, [], (Option.some.inj hm).symm, rfl, k0, rfl⟩
  · refine w_norm [] rfl rfl ?_
    refine twp_rseq ?_
    refine s_a tab_ok rfl ?_
    refine tops_nil ?_
    refine w_norm [4] rfl rfl ?_
    refine twp_ret ?_
    obtain rfl := Option.some.inj hm
    exact EndsS.one _ rfl (.d _) (.refl _)

end Go.Proofs.Ytckkkfgjgjoemaa
