/- The functions return what their models yield. No condition. -/
import Derived.Test.YthkgkolgdkcngaaGnU
import Derived.Test.YthkgkolgdkcngaaGnM
import Derived.Test.YthkgkolgdkcngaaGnW2
set_option maxHeartbeats 400000
set_option linter.unusedSimpArgs false
set_option linter.unusedVariables false
set_option maxRecDepth 20000
namespace Go.Proofs.Ythkgkolgdkcngaa
open Go Go.TL

theorem possession_Give_c {p0 : (List Possession)} {p1 : Int} {p2 : ByteArray} {r0 : (List Possession)} {r1 : Int} (hm : possession_Give p0 p1 p2 = some (r0, r1)) : RetT Try.prog 14 [.sl 4 (p0.map Possession.enc), .int .i64 p1, .str p2] [.sl 4 (r0.map Possession.enc), .int .i64 r1] := by
  refine .of (mv := fun _ => false) (ret_bodyT callB14 Try.func14 rfl Try.ntmps14 rfl rfl (fun wX gX => ?_))
  unfold possession_Give at hm
  refine w_norm [0, 1, 2] rfl rfl ?_
  refine twp_rseq ?_
  iterate 2 (refine s_a tab_ok rfl ?_)
  refine tops_nil ?_
  refine w_norm [0, 1, 2] rfl rfl ?_
  refine twp_rseq ?_
  refine s_a tab_ok rfl ?_
  obtain ⟨r1, hr1, hm⟩ := bind_inv hm
  refine s_callD rfl rfl rfl (possession_first_c hr1) rfl rfl ?_
  refine s_eq 17 (.mmap 0) rfl rfl ?_
  refine s_a tab_ok rfl ?_
  refine tops_nil ?_
  refine w_norm [0, 1, 2, 8] rfl rfl ?_
  refine twp_rseq ?_
  iterate 2 (refine s_a tab_ok rfl ?_)
  obtain ⟨g2, hm⟩ := guard_inv hm
  refine s_x rfl rfl (x_look (keyF_int .i64) (D.int .i64) _ _ (0 : Int) rfl mty60 zero3 rfl rfl rfl rfl g2) ?_
  iterate 5 (refine s_a tab_ok rfl ?_)
  refine tops_nil ?_
  refine w_norm [0, 1, 2, 8, 9, 10] rfl rfl ?_
  refine twp_seq ?_
  refine twp_rseq ?_
  iterate 2 (refine s_a tab_ok rfl ?_)
  refine tops_nil ?_
  refine w_norm [0, 1, 2, 8, 9, 25] rfl rfl ?_
  refine twp_cond _ rfl (fun h3 => ?_) (fun h3 => ?_)
  · replace hm := iteB_T h3 hm
    refine twp_rseq ?_
    iterate 2 (refine s_a tab_ok rfl ?_)
    refine tops_nil ?_
    refine c_wk 6 [some 4] rfl ?_
    refine w_norm [6, 7] rfl rfl ?_
    refine twp_ret ?_
    refine way_thenRet ?_
    obtain ⟨rfl, rfl⟩ := Prod.mk.inj (Option.some.inj hm)
    exact EndsT.two rfl (.d _) (.refl _) (.d _) (.refl _)
  · replace hm := iteB_F h3 hm
    refine twp_skip ?_
    refine way_then ?_
    refine w_norm [0, 1, 2, 8, 9] rfl rfl ?_
    refine twp_seq ?_
    refine w_joinM hm (fun x4 => ([(41, .d (.bool (x4)))] : Fr)) (fun x4 => ([] : List (Nat × Blk))) [41] [0, 1, 8, 9] rfl (fun z5 hm => ?_) (fun x4 hm => ?_)
    · refine twp_region ?_
      iterate 3 (refine s_a tab_ok rfl ?_)
      obtain ⟨e6, he6, hm⟩ := get_inv hm
      refine s_x rfl rfl (x_ix tab_ok rfl rfl rfl rfl he6) ?_
      iterate 3 (refine s_a tab_ok rfl ?_)
      refine s_b tab_ok rfl (fun q7 hq7 => ?_)
      cases q7
      · replace hm := iteN_F hq7 hm
        iterate 8 (refine s_a tab_ok rfl ?_)
        refine tops_nil ?_
        refine way_then ?_
        exact ⟨_, [0], (Option.some.inj hm).symm, rfl, k0, rfl⟩
      · replace hm := iteN_T hq7 hm
        iterate 3 (refine s_a tab_ok rfl ?_)
        obtain ⟨e8, he8, hm⟩ := get_inv hm
        refine s_x rfl rfl (x_ix tab_ok rfl rfl rfl rfl he8) ?_
        iterate 4 (refine s_a tab_ok rfl ?_)
        refine tops_nil ?_
        refine way_then ?_
        exact ⟨_, [0], (Option.some.inj hm).symm, rfl, k0, rfl⟩
    · refine w_norm [0, 1, 8, 9, 41] rfl rfl ?_
      refine twp_cond _ rfl (fun h9 => ?_) (fun h9 => ?_)
      · replace hm := iteB_T h9 hm
        refine twp_rseq ?_
        iterate 2 (refine s_a tab_ok rfl ?_)
        refine tops_nil ?_
        refine c_wk 6 [some 4] rfl ?_
        refine w_norm [6, 7] rfl rfl ?_
        refine twp_ret ?_
        refine way_thenRet ?_
        obtain ⟨rfl, rfl⟩ := Prod.mk.inj (Option.some.inj hm)
        exact EndsT.two rfl (.d _) (.refl _) (.d _) (.refl _)
      · replace hm := iteB_F h9 hm
        refine twp_skip ?_
        refine way_then ?_
        refine w_norm [0, 1, 8, 9] rfl rfl ?_
        refine twp_rseq ?_
        iterate 2 (refine s_a tab_ok rfl ?_)
        obtain ⟨g10, hm⟩ := guard_inv hm
        refine s_delE (keyF_int .i64) (D.int .i64) mty60 rfl rfl rfl g10 ?_
        refine tops_nil ?_
        refine w_norm [0, 8, 9] rfl rfl ?_
        refine twp_rseq ?_
        refine s_nilO (f := Possession.enc) 1 31 4 rfl rfl rfl ?_
        refine tops_nil ?_
        refine w_norm [0, 8, 9, 11] rfl rfl ?_
        refine w_joinM hm (fun b11 => ([(11, .msl 1 4 0 b11.length)] : Fr)) (fun b11 => ([(1, .flat 31 4 (b11.map Possession.enc))] : List (Nat × Blk))) [11] [] rfl (fun z12 hm => ?_) (fun b11 hm => ?_)
        · refine twp_rseq ?_
          refine s_a tab_ok rfl ?_
          refine s_x rfl rfl (x_len tab_ok rfl rfl rfl) ?_
          refine s_a tab_ok rfl ?_
          refine tops_nil ?_
          refine w_norm [8, 9, 11, 44, 45, 46] rfl rfl ?_
          refine twp_block ?_
          refine w_loop hm (fun (x16, b17) => ([(11, .msl 1 4 0 b17.length), (46, .d (.int .i64 x16))] : Fr)) (fun (x16, b17) => ([(1, .flat 31 4 (b17.map Possession.enc))] : List (Nat × Blk))) [11, 46] [8, 9, 44, 45] [0, 1] rfl k0 rfl rfl rfl rfl rfl (fun s z18 hm hz18 => ?_)
          obtain ⟨x16, b17⟩ := s
          refine w_norm [8, 9, 11, 44, 45, 46] rfl rfl ?_
          refine twp_rseq ?_
          refine s_a tab_ok rfl ?_
          refine tops_nil ?_
          refine w_norm [8, 9, 11, 44, 45, 46, 47] rfl rfl ?_
          refine twp_seq ?_
          refine twp_cond _ rfl (fun h19 => ?_) (fun h19 => ?_)
          · replace hm := ite_T h19 hm
            refine twp_skip ?_
            refine way_then ?_
            refine w_norm [8, 9, 11, 44, 45, 46] rfl rfl ?_
            refine twp_seq ?_
            refine twp_block ?_
            refine twp_rseq ?_
            refine s_a tab_ok rfl ?_
            obtain ⟨e20, he20, hm⟩ := get_inv hm
            refine s_x rfl rfl (x_ix tab_ok rfl rfl rfl rfl he20) ?_
            refine s_a tab_ok rfl ?_
            refine s_al 2 rfl rfl zero31 rfl ?_
            iterate 2 (refine s_a tab_ok rfl ?_)
            refine tops_nil ?_
            refine w_norm [8, 9, 11, 12, 13, 44, 45, 46] rfl rfl ?_
            refine twp_rseq ?_
            iterate 3 (refine s_a tab_ok rfl ?_)
            obtain ⟨g21, hm⟩ := guard_inv hm
            refine s_x rfl rfl (x_look (keyF_int .i64) (D.int .i64) _ _ (0 : Int) rfl mty60 zero3 rfl rfl rfl rfl g21) ?_
            iterate 5 (refine s_a tab_ok rfl ?_)
            refine tops_nil ?_
            refine w_norm [8, 9, 11, 12, 13, 15, 44, 45, 46] rfl rfl ?_
            refine w_cut [(63, .d (.bool ((((assocE (delE r1 p1) e20.sectionV).isSome) || (!(decide (x16 = ((assocE r1 p1).getD (0 : Int)))))))))] [63] [8, 9, 11, 13, 44, 45, 46] rfl ?_ ?_
            · refine twp_region ?_
              refine s_a tab_ok rfl ?_
              refine s_b tab_ok rfl (fun q22 hq22 => ?_)
              cases q22
              · iterate 4 (refine s_a tab_ok rfl ?_)
                refine tops_nil ?_
                refine way_then ?_
                exact ⟨[0, 1, 2], rfl, k0, st_eq (fr_cons (av_bool (by simp [hq22])) rfl) rfl⟩
              · iterate 4 (refine s_a tab_ok rfl ?_)
                refine tops_nil ?_
                refine way_then ?_
                exact ⟨[0, 1, 2], rfl, k0, st_eq (fr_cons (av_bool (by simp [hq22])) rfl) rfl⟩
            · refine w_norm [8, 9, 11, 13, 44, 45, 46, 63] rfl rfl ?_
              refine twp_cond _ rfl (fun h23 => ?_) (fun h23 => ?_)
              · replace hm := iteB_T h23 hm
                refine twp_region ?_
                iterate 2 (refine s_a tab_ok rfl ?_)
                refine s_x rfl rfl (x_lit [.tmp 65] tab_ok rfl rfl zero31 rfl rfl rfl rfl rfl) ?_
                obtain ⟨g24, hm⟩ := guard_inv hm
                refine s_app (f := Possession.enc) ([e20] : List Possession) tab_ok rfl rfl zero31 rfl rfl rfl rfl rfl (fun h => absurd h (Nat.not_lt_zero _)) rfl src_d g24 rfl rfl ?_
                refine s_a tab_ok rfl ?_
                refine tops_nil ?_
                refine way_block ?_
                refine way_then ?_
                refine w_norm [8, 9, 11, 44, 45, 46] rfl rfl ?_
                refine twp_region ?_
                obtain ⟨g25, hm⟩ := guard_inv hm
                refine s_x rfl rfl (x_ar rfl rfl rfl rfl g25) ?_
                refine s_a tab_ok rfl ?_
                refine tops_nil ?_
                refine way_then ?_
                exact ⟨_, [0, 1], (Option.some.inj hm).symm, rfl, k0, rfl⟩
              · replace hm := iteB_F h23 hm
                refine twp_skip ?_
                refine way_block ?_
                refine way_then ?_
                refine w_norm [8, 9, 11, 44, 45, 46] rfl rfl ?_
                refine twp_region ?_
                obtain ⟨g26, hm⟩ := guard_inv hm
                refine s_x rfl rfl (x_ar rfl rfl rfl rfl g26) ?_
                refine s_a tab_ok rfl ?_
                refine tops_nil ?_
                refine way_then ?_
                exact ⟨_, [0, 1], (Option.some.inj hm).symm, rfl, k0, rfl⟩
          · replace hm := ite_F h19 hm
            refine twp_exit ?_
            refine way_thenExit ?_
            obtain ⟨v27, hm, hz⟩ := inr_inv hm
            rw [hz18 _ hz] at hm
            refine way_thenExit ?_
            refine way_here ?_
            refine way_then ?_
            exact ⟨_, [0, 1], (Option.some.inj hm).symm, rfl, k0, rfl⟩
        · refine w_norm [11] rfl rfl ?_
          refine twp_rseq ?_
          iterate 3 (refine s_a tab_ok rfl ?_)
          refine tops_nil ?_
          refine w_norm [6, 7] rfl rfl ?_
          refine twp_ret ?_
          obtain ⟨rfl, rfl⟩ := Prod.mk.inj (Option.some.inj hm)
          exact EndsT.two rfl (snap_map rfl) (.refl _) (.d _) (.refl _)

theorem possession_Closed_c {p0 : (List Possession)} {p1 : Int} {r : (List Bool)} (hm : possession_Closed p0 p1 = some r) : RetD Try.prog 17 [.sl 4 (p0.map Possession.enc), .int .i64 p1] (.sl 1 (r.map D.bool)) := by
  refine .of (mv := fun _ => false) (ret_bodyS callB17 Try.func17 rfl Try.ntmps17 rfl rfl (fun wX gX => ?_))
  unfold possession_Closed at hm
  refine w_norm [0, 1] rfl rfl ?_
  refine twp_rseq ?_
  refine s_a tab_ok rfl ?_
  refine tops_nil ?_
  refine w_norm [0, 1] rfl rfl ?_
  refine twp_seq ?_
  refine w_cut [(13, .d (.bool (((decide (p1 < (0 : Int))) || (decide ((24 : Int) < p1))))))] [13] [0, 1] rfl ?_ ?_
  · refine twp_region ?_
    iterate 2 (refine s_a tab_ok rfl ?_)
    refine s_b tab_ok rfl (fun q1 hq1 => ?_)
    cases q1
    · iterate 3 (refine s_a tab_ok rfl ?_)
      refine tops_nil ?_
      refine way_then ?_
      exact ⟨[], rfl, k0, st_eq (fr_cons (av_bool (by simp [hq1])) rfl) rfl⟩
    · iterate 3 (refine s_a tab_ok rfl ?_)
      refine tops_nil ?_
      refine way_then ?_
      exact ⟨[], rfl, k0, st_eq (fr_cons (av_bool (by simp [hq1])) rfl) rfl⟩
  · refine w_norm [0, 1, 13] rfl rfl ?_
    refine twp_cond _ rfl (fun h2 => ?_) (fun h2 => ?_)
    · replace hm := iteB_T h2 hm
      refine twp_rseq ?_
      refine s_a tab_ok rfl ?_
      refine tops_nil ?_
      refine c_wk 4 [some 1] rfl ?_
      refine w_norm [4] rfl rfl ?_
      refine twp_ret ?_
      refine way_thenRet ?_
      obtain rfl := Option.some.inj hm
      exact EndsS.one _ rfl (.d _) (.refl _)
    · replace hm := iteB_F h2 hm
      refine twp_skip ?_
      refine way_then ?_
      refine w_norm [0, 1] rfl rfl ?_
      refine twp_rseq ?_
      refine s_a tab_ok rfl ?_
      obtain ⟨g3, hm⟩ := guard_inv hm
      refine s_mkO (f := D.bool) (x := false) 0 tab_ok rfl rfl rfl zero4 rfl rfl rfl rfl rfl g3 rfl ?_
      refine s_a tab_ok rfl ?_
      refine tops_nil ?_
      refine w_norm [0, 1, 5] rfl rfl ?_
      refine w_joinM hm (fun b4 => ([(5, .msl 0 1 0 b4.length)] : Fr)) (fun b4 => ([(0, .flat 4 1 (b4.map D.bool))] : List (Nat × Blk))) [5] [] rfl (fun z5 hm => ?_) (fun b4 hm => ?_)
      · refine twp_rseq ?_
        refine s_a tab_ok rfl ?_
        refine s_x rfl rfl (x_len tab_ok rfl rfl rfl) ?_
        refine s_a tab_ok rfl ?_
        refine tops_nil ?_
        refine w_norm [1, 5, 16, 17, 18] rfl rfl ?_
        refine twp_block ?_
        refine w_loop hm (fun (x9, b10) => ([(5, .msl 0 1 0 b10.length), (18, .d (.int .i64 x9))] : Fr)) (fun (x9, b10) => ([(0, .flat 4 1 (b10.map D.bool))] : List (Nat × Blk))) [5, 18] [1, 16, 17] [0] rfl k0 rfl rfl rfl rfl rfl (fun s z11 hm hz11 => ?_)
        obtain ⟨x9, b10⟩ := s
        refine w_norm [1, 5, 16, 17, 18] rfl rfl ?_
        refine twp_rseq ?_
        refine s_a tab_ok rfl ?_
        refine tops_nil ?_
        refine w_norm [1, 5, 16, 17, 18, 19] rfl rfl ?_
        refine twp_seq ?_
        refine twp_cond _ rfl (fun h12 => ?_) (fun h12 => ?_)
        · replace hm := ite_T h12 hm
          refine twp_skip ?_
          refine way_then ?_
          refine w_norm [1, 5, 16, 17, 18] rfl rfl ?_
          refine twp_seq ?_
          refine twp_block ?_
          refine twp_rseq ?_
          obtain ⟨e13, he13, hm⟩ := get_inv hm
          refine s_x rfl rfl (x_ix tab_ok rfl rfl rfl rfl he13) ?_
          refine s_a tab_ok rfl ?_
          refine s_al 1 rfl rfl zero31 rfl ?_
          refine s_a tab_ok rfl ?_
          refine tops_nil ?_
          refine w_norm [1, 5, 7, 16, 17, 18] rfl rfl ?_
          refine w_cut [(30, .d (.bool (((decide ((0 : Int) ≤ e13.sectionV)) && (decide (e13.sectionV < p1))))))] [30] [1, 5, 7, 16, 17, 18] rfl ?_ ?_
          · refine twp_region ?_
            iterate 3 (refine s_a tab_ok rfl ?_)
            refine s_b tab_ok rfl (fun q14 hq14 => ?_)
            cases q14
            · iterate 5 (refine s_a tab_ok rfl ?_)
              refine tops_nil ?_
              refine way_then ?_
              exact ⟨[0, 1], rfl, k0, st_eq (fr_cons (av_bool (by simp [hq14])) rfl) rfl⟩
            · iterate 5 (refine s_a tab_ok rfl ?_)
              refine tops_nil ?_
              refine way_then ?_
              exact ⟨[0, 1], rfl, k0, st_eq (fr_cons (av_bool (by simp [hq14])) rfl) rfl⟩
          · refine w_norm [1, 5, 7, 16, 17, 18, 30] rfl rfl ?_
            refine twp_cond _ rfl (fun h15 => ?_) (fun h15 => ?_)
            · replace hm := iteB_T h15 hm
              refine twp_region ?_
              iterate 3 (refine s_a tab_ok rfl ?_)
              obtain ⟨e16, he16, hm⟩ := get_inv hm
              refine s_x rfl rfl (x_ixo tab_ok rfl rfl rfl rfl he16 rfl) ?_
              refine s_sto (x' := true) tab_ok rfl rfl rfl rfl rfl he16.2 rfl rfl rfl ?_
              refine s_lno 5 (b10.set e13.sectionV.toNat true).length rfl List.length_set.symm ?_
              refine s_lno 31 (b10.set e13.sectionV.toNat true).length rfl List.length_set.symm ?_
              refine tops_nil ?_
              refine way_block ?_
              refine way_then ?_
              refine w_norm [1, 5, 16, 17, 18] rfl rfl ?_
              refine twp_region ?_
              obtain ⟨g17, hm⟩ := guard_inv hm
              refine s_x rfl rfl (x_ar rfl rfl rfl rfl g17) ?_
              refine s_a tab_ok rfl ?_
              refine tops_nil ?_
              refine way_then ?_
              exact ⟨_, [0], (Option.some.inj hm).symm, rfl, k0, rfl⟩
            · replace hm := iteB_F h15 hm
              refine twp_skip ?_
              refine way_block ?_
              refine way_then ?_
              refine w_norm [1, 5, 16, 17, 18] rfl rfl ?_
              refine twp_region ?_
              obtain ⟨g18, hm⟩ := guard_inv hm
              refine s_x rfl rfl (x_ar rfl rfl rfl rfl g18) ?_
              refine s_a tab_ok rfl ?_
              refine tops_nil ?_
              refine way_then ?_
              exact ⟨_, [0], (Option.some.inj hm).symm, rfl, k0, rfl⟩
        · replace hm := ite_F h12 hm
          refine twp_exit ?_
          refine way_thenExit ?_
          obtain ⟨v19, hm, hz⟩ := inr_inv hm
          rw [hz11 _ hz] at hm
          refine way_thenExit ?_
          refine way_here ?_
          refine way_then ?_
          exact ⟨_, [0], (Option.some.inj hm).symm, rfl, k0, rfl⟩
      · refine w_norm [5] rfl rfl ?_
        refine twp_rseq ?_
        iterate 2 (refine s_a tab_ok rfl ?_)
        refine tops_nil ?_
        refine w_norm [4] rfl rfl ?_
        refine twp_ret ?_
        obtain rfl := Option.some.inj hm
        exact EndsS.one _ rfl (snap_map rfl) (.refl _)

theorem ref42_Same_c {p0 : (List Possession)} {p1 : (List Possession)} {r : Bool} (hm : ref42_Same p0 p1 = some r) : RetN Try.prog 13 [.sl 4 (p0.map Possession.enc), .sl 4 (p1.map Possession.enc)] (.bool (r)) := by
  refine .unit (ret_bodyS callB13 Try.func13 rfl Try.ntmps13 rfl rfl (fun wX gX => ?_)) rfl
  unfold ref42_Same at hm
  refine w_norm [0, 1] rfl rfl ?_
  refine twp_rseq ?_
  refine s_a tab_ok rfl ?_
  refine tops_nil ?_
  refine w_norm [0, 1] rfl rfl ?_
  refine twp_seq ?_
  refine twp_rseq ?_
  refine s_a tab_ok rfl ?_
  refine s_x rfl rfl (x_len tab_ok rfl rfl rfl) ?_
  refine s_a tab_ok rfl ?_
  refine s_x rfl rfl (x_len tab_ok rfl rfl rfl) ?_
  refine s_a tab_ok rfl ?_
  refine tops_nil ?_
  refine w_norm [0, 1, 10] rfl rfl ?_
  refine twp_cond _ rfl (fun h1 => ?_) (fun h1 => ?_)
  · replace hm := iteN_T h1 hm
    refine twp_rseq ?_
    refine s_a tab_ok rfl ?_
    refine tops_nil ?_
    refine w_norm [4] rfl rfl ?_
    refine twp_ret ?_
    refine way_thenRet ?_
    obtain rfl := Option.some.inj hm
    exact EndsS.one _ rfl (.d _) (.refl _)
  · replace hm := iteN_F h1 hm
    refine twp_skip ?_
    refine way_then ?_
    refine w_norm [0, 1] rfl rfl ?_
    refine w_joinS hm (fun _ => ([] : Fr)) (fun _ => ([] : List (Nat × Blk))) [] [] rfl (fun z2 hm hz2 => ?_) (fun j hm => ?_)
    · refine twp_rseq ?_
      refine s_a tab_ok rfl ?_
      refine tops_nil ?_
      refine w_norm [0, 1, 5] rfl rfl ?_
      refine twp_block ?_
      refine w_loop hm (fun i4 => ([(5, .d (.int .i64 i4))] : Fr)) (fun i4 => ([] : List (Nat × Blk))) [5] [0, 1] [] rfl k0 rfl rfl rfl rfl rfl (fun i4 z5 hm hz5 => ?_)
      refine w_norm [0, 1, 5] rfl rfl ?_
      refine twp_seq ?_
      refine twp_rseq ?_
      iterate 2 (refine s_a tab_ok rfl ?_)
      refine s_x rfl rfl (x_len tab_ok rfl rfl rfl) ?_
      refine s_a tab_ok rfl ?_
      refine tops_nil ?_
      refine w_norm [0, 1, 5, 14] rfl rfl ?_
      refine twp_cond _ rfl (fun h6 => ?_) (fun h6 => ?_)
      · replace hm := ite_T h6 hm
        refine twp_skip ?_
        refine way_then ?_
        refine w_norm [0, 1, 5] rfl rfl ?_
        refine twp_seq ?_
        refine twp_block ?_
        refine twp_dseq follows  ?_
        iterate 2 (refine d_a [] tab_ok rfl ?_)
        obtain ⟨e7, he7, hm⟩ := get_inv hm
        refine d_x [] rfl rfl (x_ix tab_ok rfl rfl rfl rfl he7) ?_
        iterate 3 (refine d_a [] tab_ok rfl ?_)
        obtain ⟨e8, he8, hm⟩ := get_inv hm
        refine d_x [] rfl rfl (x_ix tab_ok rfl rfl rfl rfl he8) ?_
        refine d_a [] tab_ok rfl ?_
        obtain ⟨g9, hm⟩ := guard_inv hm
        refine d_x [] rfl rfl (Possession_ne rfl rfl rfl g9.1 g9.2) ?_
        refine d_tail ?_ (by kernel_rfl)
        refine tops_nil ?_
        refine w_norm [0, 1, 5, 25] rfl rfl ?_
        refine twp_cond _ rfl (fun h11 => ?_) (fun h11 => ?_)
        · replace hm := iteN_T h11 hm
          refine twp_rseq ?_
          refine s_a tab_ok rfl ?_
          refine tops_nil ?_
          refine w_norm [4] rfl rfl ?_
          refine twp_ret ?_
          refine way_blockRet ?_
          refine way_thenRet ?_
          obtain ⟨v12, hm, hz⟩ := inr_inv hm
          rw [hz5 _ hz] at hm
          refine way_thenRet ?_
          refine way_blockRet ?_
          obtain ⟨v13, hm, hz⟩ := inr_inv hm
          rw [hz2 _ hz] at hm
          refine way_thenRet ?_
          obtain rfl := Option.some.inj hm
          exact EndsS.one _ rfl (.d _) (.refl _)
        · replace hm := iteN_F h11 hm
          refine twp_skip ?_
          refine way_block ?_
          refine way_then ?_
          refine w_norm [0, 1, 5] rfl rfl ?_
          refine twp_region ?_
          refine s_a tab_ok rfl ?_
          obtain ⟨g14, hm⟩ := guard_inv hm
          refine s_x rfl rfl (x_ar rfl rfl rfl rfl g14) ?_
          refine s_a tab_ok rfl ?_
          refine tops_nil ?_
          refine way_then ?_
          exact ⟨_, [], (Option.some.inj hm).symm, rfl, k0, rfl⟩
      · replace hm := ite_F h6 hm
        refine twp_exit ?_
        refine way_thenExit ?_
        obtain ⟨v15, hm, hz⟩ := inr_inv hm
        rw [hz5 _ hz] at hm
        refine way_thenExit ?_
        refine way_here ?_
        refine way_then ?_
        exact ⟨_, [], (Option.some.inj hm).symm, rfl, k0, rfl⟩
    · refine w_norm [] rfl rfl ?_
      refine twp_rseq ?_
      refine s_a tab_ok rfl ?_
      refine tops_nil ?_
      refine w_norm [4] rfl rfl ?_
      refine twp_ret ?_
      obtain rfl := Option.some.inj hm
      exact EndsS.one _ rfl (.d _) (.refl _)

theorem ref42_SameBools_c {p0 : (List Bool)} {p1 : (List Bool)} {r : Bool} (hm : ref42_SameBools p0 p1 = some r) : RetN Try.prog 16 [.sl 1 (p0.map D.bool), .sl 1 (p1.map D.bool)] (.bool (r)) := by
  refine .unit (ret_bodyS callB16 Try.func16 rfl Try.ntmps16 rfl rfl (fun wX gX => ?_)) rfl
  unfold ref42_SameBools at hm
  refine w_norm [0, 1] rfl rfl ?_
  refine twp_rseq ?_
  refine s_a tab_ok rfl ?_
  refine tops_nil ?_
  refine w_norm [0, 1] rfl rfl ?_
  refine twp_seq ?_
  refine twp_rseq ?_
  refine s_a tab_ok rfl ?_
  refine s_x rfl rfl (x_len tab_ok rfl rfl rfl) ?_
  refine s_a tab_ok rfl ?_
  refine s_x rfl rfl (x_len tab_ok rfl rfl rfl) ?_
  refine s_a tab_ok rfl ?_
  refine tops_nil ?_
  refine w_norm [0, 1, 10] rfl rfl ?_
  refine twp_cond _ rfl (fun h1 => ?_) (fun h1 => ?_)
  · replace hm := iteN_T h1 hm
    refine twp_rseq ?_
    refine s_a tab_ok rfl ?_
    refine tops_nil ?_
    refine w_norm [4] rfl rfl ?_
    refine twp_ret ?_
    refine way_thenRet ?_
    obtain rfl := Option.some.inj hm
    exact EndsS.one _ rfl (.d _) (.refl _)
  · replace hm := iteN_F h1 hm
    refine twp_skip ?_
    refine way_then ?_
    refine w_norm [0, 1] rfl rfl ?_
    refine w_joinS hm (fun _ => ([] : Fr)) (fun _ => ([] : List (Nat × Blk))) [] [] rfl (fun z2 hm hz2 => ?_) (fun j hm => ?_)
    · refine twp_rseq ?_
      refine s_a tab_ok rfl ?_
      refine tops_nil ?_
      refine w_norm [0, 1, 5] rfl rfl ?_
      refine twp_block ?_
      refine w_loop hm (fun i4 => ([(5, .d (.int .i64 i4))] : Fr)) (fun i4 => ([] : List (Nat × Blk))) [5] [0, 1] [] rfl k0 rfl rfl rfl rfl rfl (fun i4 z5 hm hz5 => ?_)
      refine w_norm [0, 1, 5] rfl rfl ?_
      refine twp_seq ?_
      refine twp_rseq ?_
      iterate 2 (refine s_a tab_ok rfl ?_)
      refine s_x rfl rfl (x_len tab_ok rfl rfl rfl) ?_
      refine s_a tab_ok rfl ?_
      refine tops_nil ?_
      refine w_norm [0, 1, 5, 14] rfl rfl ?_
      refine twp_cond _ rfl (fun h6 => ?_) (fun h6 => ?_)
      · replace hm := ite_T h6 hm
        refine twp_skip ?_
        refine way_then ?_
        refine w_norm [0, 1, 5] rfl rfl ?_
        refine twp_seq ?_
        refine twp_block ?_
        refine twp_dseq follows  ?_
        iterate 2 (refine d_a [] tab_ok rfl ?_)
        obtain ⟨e7, he7, hm⟩ := get_inv hm
        refine d_x [] rfl rfl (x_ix tab_ok rfl rfl rfl rfl he7) ?_
        iterate 3 (refine d_a [] tab_ok rfl ?_)
        obtain ⟨e8, he8, hm⟩ := get_inv hm
        refine d_x [] rfl rfl (x_ix tab_ok rfl rfl rfl rfl he8) ?_
        iterate 2 (refine d_a [] tab_ok rfl ?_)
        refine d_tail ?_ (by kernel_rfl)
        refine tops_nil ?_
        refine w_norm [0, 1, 5, 25] rfl rfl ?_
        refine twp_cond _ rfl (fun h9 => ?_) (fun h9 => ?_)
        · replace hm := iteB_T h9 hm
          refine twp_rseq ?_
          refine s_a tab_ok rfl ?_
          refine tops_nil ?_
          refine w_norm [4] rfl rfl ?_
          refine twp_ret ?_
          refine way_blockRet ?_
          refine way_thenRet ?_
          obtain ⟨v10, hm, hz⟩ := inr_inv hm
          rw [hz5 _ hz] at hm
          refine way_thenRet ?_
          refine way_blockRet ?_
          obtain ⟨v11, hm, hz⟩ := inr_inv hm
          rw [hz2 _ hz] at hm
          refine way_thenRet ?_
          obtain rfl := Option.some.inj hm
          exact EndsS.one _ rfl (.d _) (.refl _)
        · replace hm := iteB_F h9 hm
          refine twp_skip ?_
          refine way_block ?_
          refine way_then ?_
          refine w_norm [0, 1, 5] rfl rfl ?_
          refine twp_region ?_
          refine s_a tab_ok rfl ?_
          obtain ⟨g12, hm⟩ := guard_inv hm
          refine s_x rfl rfl (x_ar rfl rfl rfl rfl g12) ?_
          refine s_a tab_ok rfl ?_
          refine tops_nil ?_
          refine way_then ?_
          exact ⟨_, [], (Option.some.inj hm).symm, rfl, k0, rfl⟩
      · replace hm := ite_F h6 hm
        refine twp_exit ?_
        refine way_thenExit ?_
        obtain ⟨v13, hm, hz⟩ := inr_inv hm
        rw [hz5 _ hz] at hm
        refine way_thenExit ?_
        refine way_here ?_
        refine way_then ?_
        exact ⟨_, [], (Option.some.inj hm).symm, rfl, k0, rfl⟩
    · refine w_norm [] rfl rfl ?_
      refine twp_rseq ?_
      refine s_a tab_ok rfl ?_
      refine tops_nil ?_
      refine w_norm [4] rfl rfl ?_
      refine twp_ret ?_
      obtain rfl := Option.some.inj hm
      exact EndsS.one _ rfl (.d _) (.refl _)

theorem law42_alive_c  {r : Bool} (hm : law42_alive  = some r) : RetN Try.prog 10 [] (.bool (r)) := by
  refine .unit (ret_bodyS callB10 Try.func10 rfl Try.ntmps10 rfl rfl (fun wX gX => ?_)) rfl
  unfold law42_alive at hm
  refine w_norm [] rfl rfl ?_
  refine twp_rseq ?_
  refine s_a tab_ok rfl ?_
  refine tops_nil ?_
  refine w_norm [] rfl rfl ?_
  refine twp_rseq ?_
  refine s_x rfl rfl (build_d rfl plc25 zero25 rfl rfl rfl rfl) ?_
  refine s_wk 13 [some 14, some 1, some 1, none, none] rfl ?_
  refine s_al 0 rfl rfl zero25 rfl ?_
  refine s_wkb 0 [some 14, some 1, some 1, none, none] rfl rfl ?_
  refine s_a tab_ok rfl ?_
  refine tops_nil ?_
  refine w_norm [1] rfl rfl ?_
  refine twp_rseq ?_
  refine s_x rfl rfl (build_d rfl plc31 zero31 rfl rfl rfl rfl) ?_
  refine s_x rfl rfl (build_d rfl plc31 zero31 rfl rfl rfl rfl) ?_
  refine s_x rfl rfl (x_lit [.tmp 14, .tmp 15] tab_ok rfl rfl zero31 rfl rfl rfl rfl rfl) ?_
  refine s_a tab_ok rfl ?_
  refine tops_nil ?_
  refine w_norm [1, 2] rfl rfl ?_
  refine twp_rseq ?_
  refine s_x rfl rfl (build_d rfl plc31 zero31 rfl rfl rfl rfl) ?_
  refine s_al 1 rfl rfl zero31 rfl ?_
  refine s_a tab_ok rfl ?_
  refine tops_nil ?_
  refine w_norm [1, 2, 3] rfl rfl ?_
  refine twp_rseq ?_
  refine s_a tab_ok rfl ?_
  refine s_x rfl rfl (build_d rfl plc28 zero28 rfl rfl rfl rfl) ?_
  refine s_wk 20 [some 3, some 1] rfl ?_
  iterate 2 (refine s_a tab_ok rfl ?_)
  obtain ⟨r1, hr1, hm⟩ := bind_inv hm
  obtain ⟨r2, r3⟩ := r1
  refine s_x rfl rfl (x_callT rfl rfl rfl (possession_Take_c hr1)) ?_
  iterate 5 (refine s_a tab_ok rfl ?_)
  refine tops_nil ?_
  refine w_norm [1, 2, 3, 4, 5] rfl rfl ?_
  refine twp_rseq ?_
  refine s_a tab_ok rfl ?_
  refine s_x rfl rfl (build_d rfl plc28 zero28 rfl rfl rfl rfl) ?_
  refine s_wk 28 [some 3, some 1] rfl ?_
  refine s_a tab_ok rfl ?_
  refine s_x rfl rfl (build_d rfl plc31 zero31 rfl rfl rfl rfl) ?_
  obtain ⟨r4, hr4, hm⟩ := bind_inv hm
  obtain ⟨r5, r6⟩ := r4
  refine s_x rfl rfl (x_callT rfl rfl rfl (possession_Take_c hr4)) ?_
  iterate 5 (refine s_a tab_ok rfl ?_)
  refine tops_nil ?_
  refine w_norm [2, 3, 4, 5, 7] rfl rfl ?_
  refine twp_rseq ?_
  refine s_a tab_ok rfl ?_
  obtain ⟨r7, hr7, hm⟩ := bind_inv hm
  obtain ⟨r8, r9⟩ := r7
  refine s_x rfl rfl (x_callT rfl rfl rfl (possession_Give_c hr7)) ?_
  iterate 5 (refine s_a tab_ok rfl ?_)
  refine tops_nil ?_
  refine w_norm [2, 3, 4, 5, 7, 9] rfl rfl ?_
  refine twp_rseq ?_
  refine s_a tab_ok rfl ?_
  obtain ⟨r10, hr10, hm⟩ := bind_inv hm
  obtain ⟨r11, r12⟩ := r10
  refine s_x rfl rfl (x_callT rfl rfl rfl (possession_Give_c hr10)) ?_
  iterate 5 (refine s_a tab_ok rfl ?_)
  refine tops_nil ?_
  refine w_norm [2, 3, 4, 5, 7, 9, 10, 11] rfl rfl ?_
  refine twp_rseq ?_
  refine s_a tab_ok rfl ?_
  obtain ⟨r13, hr13, hm⟩ := bind_inv hm
  refine s_x rfl rfl (rd_callRD rfl rfl rfl (possession_Closed_c hr13)) ?_
  refine s_a tab_ok rfl ?_
  refine tops_nil ?_
  refine w_norm [2, 3, 4, 5, 7, 9, 10, 11, 12] rfl rfl ?_
  refine w_joinM hm (fun x14 => ([(0, .d (.bool (x14)))] : Fr)) (fun x14 => ([] : List (Nat × Blk))) [0] [] rfl (fun z15 hm => ?_) (fun x14 hm => ?_)
  · refine twp_draw follows  ?_
    iterate 2 (refine d_a [0, 1] tab_ok rfl ?_)
    refine d_b [0, 1] tab_ok rfl (fun q16 hq16 => ?_)
    cases q16
    · replace hm := ite_F hq16 hm
      iterate 33 (refine d_a [0, 1] tab_ok rfl ?_)
      refine d_tail ?_ (by kernel_rfl)
      refine s_a tab_ok rfl ?_
      refine tops_nil ?_
      refine way_then ?_
      exact ⟨_, [0, 1], (Option.some.inj hm).symm, rfl, k0, rfl⟩
    · replace hm := ite_T hq16 hm
      refine d_a [0, 1] tab_ok rfl ?_
      refine d_x [0, 1] rfl rfl (x_len tab_ok rfl rfl rfl) ?_
      iterate 2 (refine d_a [0, 1] tab_ok rfl ?_)
      refine d_b [0, 1] tab_ok rfl (fun q17 hq17 => ?_)
      cases q17
      · replace hm := ite_F hq17 hm
        iterate 28 (refine d_a [0, 1] tab_ok rfl ?_)
        refine d_tail ?_ (by kernel_rfl)
        refine s_a tab_ok rfl ?_
        refine tops_nil ?_
        refine way_then ?_
        exact ⟨_, [0, 1], (Option.some.inj hm).symm, rfl, k0, rfl⟩
      · replace hm := ite_T hq17 hm
        refine d_a [0, 1] tab_ok rfl ?_
        obtain ⟨e18, he18, hm⟩ := get_inv hm
        refine d_x [0, 1] rfl rfl (x_ix tab_ok rfl rfl rfl rfl he18) ?_
        iterate 2 (refine d_a [0, 1] tab_ok rfl ?_)
        obtain ⟨g19, hm⟩ := guard_inv hm
        refine d_x [0, 1] rfl rfl (Possession_eq rfl rfl rfl g19.1 g19.2) ?_
        refine d_a [0, 1] tab_ok rfl ?_
        refine d_b [0, 1] tab_ok rfl (fun q21 hq21 => ?_)
        cases q21
        · replace hm := ite_F hq21 hm
          iterate 21 (refine d_a [0, 1] tab_ok rfl ?_)
          refine d_tail ?_ (by kernel_rfl)
          refine s_a tab_ok rfl ?_
          refine tops_nil ?_
          refine way_then ?_
          exact ⟨_, [0, 1], (Option.some.inj hm).symm, rfl, k0, rfl⟩
        · replace hm := ite_T hq21 hm
          iterate 3 (refine d_a [0, 1] tab_ok rfl ?_)
          refine d_b [0, 1] tab_ok rfl (fun q22 hq22 => ?_)
          cases q22
          · replace hm := ite_F hq22 hm
            iterate 17 (refine d_a [0, 1] tab_ok rfl ?_)
            refine d_tail ?_ (by kernel_rfl)
            refine s_a tab_ok rfl ?_
            refine tops_nil ?_
            refine way_then ?_
            exact ⟨_, [0, 1], (Option.some.inj hm).symm, rfl, k0, rfl⟩
          · replace hm := ite_T hq22 hm
            iterate 3 (refine d_a [0, 1] tab_ok rfl ?_)
            refine d_b [0, 1] tab_ok rfl (fun q23 hq23 => ?_)
            cases q23
            · replace hm := ite_F hq23 hm
              iterate 13 (refine d_a [0, 1] tab_ok rfl ?_)
              refine d_tail ?_ (by kernel_rfl)
              refine s_a tab_ok rfl ?_
              refine tops_nil ?_
              refine way_then ?_
              exact ⟨_, [0, 1], (Option.some.inj hm).symm, rfl, k0, rfl⟩
            · replace hm := ite_T hq23 hm
              iterate 3 (refine d_a [0, 1] tab_ok rfl ?_)
              refine d_b [0, 1] tab_ok rfl (fun q24 hq24 => ?_)
              cases q24
              · replace hm := ite_F hq24 hm
                iterate 9 (refine d_a [0, 1] tab_ok rfl ?_)
                refine d_tail ?_ (by kernel_rfl)
                refine s_a tab_ok rfl ?_
                refine tops_nil ?_
                refine way_then ?_
                exact ⟨_, [0, 1], (Option.some.inj hm).symm, rfl, k0, rfl⟩
              · replace hm := ite_T hq24 hm
                iterate 2 (refine d_a [0, 1] tab_ok rfl ?_)
                obtain ⟨r25, hr25, hm⟩ := bind_inv hm
                refine d_x [0, 1] rfl rfl (rd_callRN rfl rfl (snaps_cons (.d _) (snaps_cons (.d _) snaps_nil)) (ref42_Same_c hr25)) ?_
                refine d_a [0, 1] tab_ok rfl ?_
                refine d_b [0, 1] tab_ok rfl (fun q26 hq26 => ?_)
                cases q26
                · replace hm := iteB_F hq26 hm
                  iterate 4 (refine d_a [0, 1] tab_ok rfl ?_)
                  refine d_tail ?_ (by kernel_rfl)
                  refine s_a tab_ok rfl ?_
                  refine tops_nil ?_
                  refine way_then ?_
                  exact ⟨_, [0, 1], (Option.some.inj hm).symm, rfl, k0, rfl⟩
                · replace hm := iteB_T hq26 hm
                  refine d_a [0, 1] tab_ok rfl ?_
                  refine d_x [0, 1] rfl rfl (x_lit [.const (Value.bool Bool.false), .const (Value.bool Bool.true), .const (Value.bool Bool.false), .const (Value.bool Bool.false), .const (Value.bool Bool.false), .const (Value.bool Bool.true)] tab_ok rfl rfl zero4 rfl rfl rfl rfl rfl) ?_
                  obtain ⟨r27, hr27, hm⟩ := bind_inv hm
                  refine d_x [0, 1] rfl rfl (rd_callRN rfl rfl (snaps_cons (.d _) (snaps_cons (.d _) snaps_nil)) (ref42_SameBools_c hr27)) ?_
                  refine d_a [0, 1] tab_ok rfl ?_
                  refine d_tail ?_ (by kernel_rfl)
                  refine s_a tab_ok rfl ?_
                  refine tops_nil ?_
                  refine way_then ?_
                  exact ⟨_, [0, 1], (Option.some.inj hm).symm, rfl, k0, rfl⟩
  · refine w_norm [0] rfl rfl ?_
    refine twp_ret ?_
    obtain rfl := Option.some.inj hm
    exact EndsS.one _ rfl (.d _) (.refl _)

theorem ref16_sections_c {p0 : Table} {p1 : (List Int)} {r : Bool} (hm : ref16_sections p0 p1 = some r) : RetN Try.prog 59 [p0.enc, .sl 1 (p1.map (D.int .i64))] (.bool (r)) := by
  refine .unit (ret_bodyS callB59 Try.func59 rfl Try.ntmps59 rfl rfl (fun wX gX => ?_)) rfl
  unfold ref16_sections at hm
  refine w_norm [0, 1] rfl rfl ?_
  refine twp_rseq ?_
  refine s_bx 0 rfl rfl rfl ?_
  refine s_a tab_ok rfl ?_
  refine tops_nil ?_
  refine w_norm [1, 2] rfl rfl ?_
  refine w_joinS hm (fun _ => ([] : Fr)) (fun _ => ([] : List (Nat × Blk))) [] [] rfl (fun z1 hm hz1 => ?_) (fun j hm => ?_)
  · refine twp_rseq ?_
    refine s_a tab_ok rfl ?_
    refine s_x rfl rfl (x_len tab_ok rfl rfl rfl) ?_
    refine s_a tab_ok rfl ?_
    refine tops_nil ?_
    refine w_norm [1, 2, 8, 9, 10] rfl rfl ?_
    refine twp_block ?_
    refine w_loop hm (fun x3 => ([(10, .d (.int .i64 x3))] : Fr)) (fun x3 => ([] : List (Nat × Blk))) [10] [1, 2, 8, 9] [0] rfl k0 rfl rfl rfl rfl rfl (fun x3 z4 hm hz4 => ?_)
    refine w_norm [1, 2, 8, 9, 10] rfl rfl ?_
    refine twp_rseq ?_
    refine s_a tab_ok rfl ?_
    refine tops_nil ?_
    refine w_norm [1, 2, 8, 9, 10, 11] rfl rfl ?_
    refine twp_seq ?_
    refine twp_cond _ rfl (fun h5 => ?_) (fun h5 => ?_)
    · replace hm := ite_T h5 hm
      refine twp_skip ?_
      refine way_then ?_
      refine w_norm [1, 2, 8, 9, 10] rfl rfl ?_
      refine w_joinS hm (fun _ => ([] : Fr)) (fun _ => ([] : List (Nat × Blk))) [] [1, 2, 8, 9, 10] rfl (fun z6 hm hz6 => ?_) (fun j hm => ?_)
      · refine twp_block ?_
        refine twp_rseq ?_
        refine s_a tab_ok rfl ?_
        obtain ⟨e7, he7, hm⟩ := get_inv hm
        refine s_x rfl rfl (x_ix tab_ok rfl rfl rfl rfl he7) ?_
        iterate 3 (refine s_a tab_ok rfl ?_)
        refine tops_nil ?_
        refine w_norm [1, 2, 5, 6, 8, 9, 10] rfl rfl ?_
        refine twp_seq ?_
        refine w_cut [(22, .d (.bool (((decide (e7 < (0 : Int))) || (decide (p0.sections ≤ e7))))))] [22] [1, 2, 5, 6, 8, 9, 10] rfl ?_ ?_
        · refine twp_region ?_
          iterate 2 (refine s_a tab_ok rfl ?_)
          refine s_b tab_ok rfl (fun q8 hq8 => ?_)
          cases q8
          · iterate 5 (refine s_a tab_ok rfl ?_)
            refine tops_nil ?_
            refine way_then ?_
            exact ⟨[0], rfl, k0, st_eq (fr_cons (av_bool (by simp [hq8])) rfl) rfl⟩
          · iterate 5 (refine s_a tab_ok rfl ?_)
            refine tops_nil ?_
            refine way_then ?_
            exact ⟨[0], rfl, k0, st_eq (fr_cons (av_bool (by simp [hq8])) rfl) rfl⟩
        · refine w_norm [1, 2, 5, 6, 8, 9, 10, 22] rfl rfl ?_
          refine twp_cond _ rfl (fun h9 => ?_) (fun h9 => ?_)
          · replace hm := iteB_T h9 hm
            refine twp_rseq ?_
            refine s_a tab_ok rfl ?_
            refine tops_nil ?_
            refine w_norm [4] rfl rfl ?_
            refine twp_ret ?_
            refine way_thenRet ?_
            refine way_blockRet ?_
            obtain ⟨v10, hm, hz⟩ := inr_inv hm
            rw [hz6 _ hz] at hm
            refine way_thenRet ?_
            obtain ⟨v11, hm, hz⟩ := inr_inv hm
            rw [hz4 _ hz] at hm
            refine way_thenRet ?_
            refine way_blockRet ?_
            obtain ⟨v12, hm, hz⟩ := inr_inv hm
            rw [hz1 _ hz] at hm
            refine way_thenRet ?_
            obtain rfl := Option.some.inj hm
            exact EndsS.one _ rfl (.d _) (.refl _)
          · replace hm := iteB_F h9 hm
            refine twp_skip ?_
            refine way_then ?_
            refine w_norm [1, 2, 5, 6, 8, 9, 10] rfl rfl ?_
            refine twp_rseq ?_
            iterate 2 (refine s_a tab_ok rfl ?_)
            refine tops_nil ?_
            refine w_norm [1, 2, 6, 8, 9, 10, 23, 24] rfl rfl ?_
            refine twp_block ?_
            refine w_loop hm (fun x14 => ([(24, .d (.int .i64 x14))] : Fr)) (fun x14 => ([] : List (Nat × Blk))) [24] [1, 2, 6, 8, 9, 10, 23] [0] rfl k0 rfl rfl rfl rfl rfl (fun x14 z15 hm hz15 => ?_)
            refine w_norm [1, 2, 6, 8, 9, 10, 23, 24] rfl rfl ?_
            refine twp_rseq ?_
            refine s_a tab_ok rfl ?_
            refine tops_nil ?_
            refine w_norm [1, 2, 6, 8, 9, 10, 23, 24, 25] rfl rfl ?_
            refine twp_seq ?_
            refine twp_cond _ rfl (fun h16 => ?_) (fun h16 => ?_)
            · replace hm := ite_T h16 hm
              refine twp_skip ?_
              refine way_then ?_
              refine w_norm [1, 2, 6, 8, 9, 10, 23, 24] rfl rfl ?_
              refine twp_seq ?_
              refine twp_block ?_
              refine twp_rseq ?_
              iterate 2 (refine s_a tab_ok rfl ?_)
              refine tops_nil ?_
              refine w_norm [1, 2, 6, 7, 8, 9, 10, 23, 24] rfl rfl ?_
              refine twp_rseq ?_
              iterate 2 (refine s_a tab_ok rfl ?_)
              obtain ⟨e17, he17, hm⟩ := get_inv hm
              refine s_x rfl rfl (x_ix tab_ok rfl rfl rfl rfl he17) ?_
              iterate 3 (refine s_a tab_ok rfl ?_)
              refine tops_nil ?_
              refine w_norm [1, 2, 6, 8, 9, 10, 23, 24, 32] rfl rfl ?_
              refine twp_cond _ rfl (fun h18 => ?_) (fun h18 => ?_)
              · replace hm := ite_T h18 hm
                refine twp_rseq ?_
                refine s_a tab_ok rfl ?_
                refine tops_nil ?_
                refine w_norm [4] rfl rfl ?_
                refine twp_ret ?_
                refine way_blockRet ?_
                refine way_thenRet ?_
                obtain ⟨v19, hm, hz⟩ := inr_inv hm
                rw [hz15 _ hz] at hm
                refine way_thenRet ?_
                refine way_blockRet ?_
                refine way_blockRet ?_
                obtain ⟨v20, hm, hz⟩ := inr_inv hm
                rw [hz6 _ hz] at hm
                refine way_thenRet ?_
                obtain ⟨v21, hm, hz⟩ := inr_inv hm
                rw [hz4 _ hz] at hm
                refine way_thenRet ?_
                refine way_blockRet ?_
                obtain ⟨v22, hm, hz⟩ := inr_inv hm
                rw [hz1 _ hz] at hm
                refine way_thenRet ?_
                obtain rfl := Option.some.inj hm
                exact EndsS.one _ rfl (.d _) (.refl _)
              · replace hm := ite_F h18 hm
                refine twp_skip ?_
                refine way_block ?_
                refine way_then ?_
                refine w_norm [1, 2, 6, 8, 9, 10, 23, 24] rfl rfl ?_
                refine twp_region ?_
                obtain ⟨g23, hm⟩ := guard_inv hm
                refine s_x rfl rfl (x_ar rfl rfl rfl rfl g23) ?_
                refine s_a tab_ok rfl ?_
                refine tops_nil ?_
                refine way_then ?_
                exact ⟨_, [0], (Option.some.inj hm).symm, rfl, k0, rfl⟩
            · replace hm := ite_F h16 hm
              refine twp_exit ?_
              refine way_thenExit ?_
              obtain ⟨v24, hm, hz⟩ := inr_inv hm
              rw [hz15 _ hz] at hm
              refine way_thenExit ?_
              refine way_here ?_
              refine way_block ?_
              refine way_then ?_
              exact ⟨_, [0], (Option.some.inj hm).symm, rfl, k0, rfl⟩
      · refine w_norm [1, 2, 8, 9, 10] rfl rfl ?_
        refine twp_region ?_
        obtain ⟨g25, hm⟩ := guard_inv hm
        refine s_x rfl rfl (x_ar rfl rfl rfl rfl g25) ?_
        refine s_a tab_ok rfl ?_
        refine tops_nil ?_
        refine way_then ?_
        exact ⟨_, [0], (Option.some.inj hm).symm, rfl, k0, rfl⟩
    · replace hm := ite_F h5 hm
      refine twp_exit ?_
      refine way_thenExit ?_
      obtain ⟨v26, hm, hz⟩ := inr_inv hm
      rw [hz4 _ hz] at hm
      refine way_thenExit ?_
      refine way_here ?_
      refine way_then ?_
      exact ⟨_, [0], (Option.some.inj hm).symm, rfl, k0, rfl⟩
  · refine w_norm [] rfl rfl ?_
    refine twp_rseq ?_
    refine s_a tab_ok rfl ?_
    refine tops_nil ?_
    refine w_norm [4] rfl rfl ?_
    refine twp_ret ?_
    obtain rfl := Option.some.inj hm
    exact EndsS.one _ rfl (.d _) (.refl _)

theorem ref16_right_c {p0 : Table} {p1 : Route} {r : Bool} (hm : ref16_right p0 p1 = some r) : RetN Try.prog 36 [p0.enc, p1.enc] (.bool (r)) := by
  refine .unit (ret_bodyS callB36 Try.func36 rfl Try.ntmps36 rfl rfl (fun wX gX => ?_)) rfl
  unfold ref16_right at hm
  refine w_norm [0, 1] rfl rfl ?_
  refine twp_rseq ?_
  refine s_bx 0 rfl rfl rfl ?_
  refine s_bx 1 rfl rfl rfl ?_
  refine s_a tab_ok rfl ?_
  refine tops_nil ?_
  refine w_norm [2, 3] rfl rfl ?_
  refine twp_seq ?_
  refine w_cut [(44, .d (.bool (((decide (p1.entry < (0 : Int))) || ((decide (p0.signals ≤ p1.entry)) || ((decide (p1.exit < (-1 : Int))) || ((decide (p0.signals ≤ p1.exit)) || ((decide ((p1.path.length : Int) < (1 : Int))) || ((decide ((12 : Int) < (p1.path.length : Int))) || (decide (p1.length < (1 : Int))))))))))))] [44] [2, 3] rfl ?_ ?_
  · refine twp_region ?_
    iterate 3 (refine s_a tab_ok rfl ?_)
    refine s_b tab_ok rfl (fun q1 hq1 => ?_)
    cases q1
    · iterate 6 (refine s_a tab_ok rfl ?_)
      refine s_b tab_ok rfl (fun q2 hq2 => ?_)
      cases q2
      · iterate 4 (refine s_a tab_ok rfl ?_)
        refine s_b tab_ok rfl (fun q3 hq3 => ?_)
        cases q3
        · iterate 6 (refine s_a tab_ok rfl ?_)
          refine s_b tab_ok rfl (fun q4 hq4 => ?_)
          cases q4
          · iterate 2 (refine s_a tab_ok rfl ?_)
            refine s_x rfl rfl (x_len tab_ok rfl rfl rfl) ?_
            iterate 2 (refine s_a tab_ok rfl ?_)
            refine s_b tab_ok rfl (fun q5 hq5 => ?_)
            cases q5
            · iterate 2 (refine s_a tab_ok rfl ?_)
              refine s_x rfl rfl (x_len tab_ok rfl rfl rfl) ?_
              iterate 2 (refine s_a tab_ok rfl ?_)
              refine s_b tab_ok rfl (fun q6 hq6 => ?_)
              cases q6
              · iterate 4 (refine s_a tab_ok rfl ?_)
                refine tops_nil ?_
                refine way_then ?_
                exact ⟨[0, 1], rfl, k0, st_eq (fr_cons (av_bool (by simp [hq1, hq2, hq3, hq4, hq5, hq6])) rfl) rfl⟩
              · iterate 4 (refine s_a tab_ok rfl ?_)
                refine tops_nil ?_
                refine way_then ?_
                exact ⟨[0, 1], rfl, k0, st_eq (fr_cons (av_bool (by simp [hq1, hq2, hq3, hq4, hq5, hq6])) rfl) rfl⟩
            · iterate 10 (refine s_a tab_ok rfl ?_)
              refine tops_nil ?_
              refine way_then ?_
              exact ⟨[0, 1], rfl, k0, st_eq (fr_cons (av_bool (by simp [hq1, hq2, hq3, hq4, hq5])) rfl) rfl⟩
          · iterate 16 (refine s_a tab_ok rfl ?_)
            refine tops_nil ?_
            refine way_then ?_
            exact ⟨[0, 1], rfl, k0, st_eq (fr_cons (av_bool (by simp [hq1, hq2, hq3, hq4])) rfl) rfl⟩
        · iterate 23 (refine s_a tab_ok rfl ?_)
          refine tops_nil ?_
          refine way_then ?_
          exact ⟨[0, 1], rfl, k0, st_eq (fr_cons (av_bool (by simp [hq1, hq2, hq3])) rfl) rfl⟩
      · iterate 28 (refine s_a tab_ok rfl ?_)
        refine tops_nil ?_
        refine way_then ?_
        exact ⟨[0, 1], rfl, k0, st_eq (fr_cons (av_bool (by simp [hq1, hq2])) rfl) rfl⟩
    · iterate 35 (refine s_a tab_ok rfl ?_)
      refine tops_nil ?_
      refine way_then ?_
      exact ⟨[0, 1], rfl, k0, st_eq (fr_cons (av_bool (by simp [hq1])) rfl) rfl⟩
  · refine w_norm [2, 3, 44] rfl rfl ?_
    refine twp_cond _ rfl (fun h7 => ?_) (fun h7 => ?_)
    · replace hm := iteB_T h7 hm
      refine twp_rseq ?_
      refine s_a tab_ok rfl ?_
      refine tops_nil ?_
      refine w_norm [4] rfl rfl ?_
      refine twp_ret ?_
      refine way_thenRet ?_
      obtain rfl := Option.some.inj hm
      exact EndsS.one _ rfl (.d _) (.refl _)
    · replace hm := iteB_F h7 hm
      refine twp_skip ?_
      refine way_then ?_
      refine w_norm [2, 3] rfl rfl ?_
      refine twp_rseq ?_
      refine s_nilO (f := (D.int .i64)) 2 3 1 rfl rfl rfl ?_
      refine tops_nil ?_
      refine w_norm [2, 3, 5] rfl rfl ?_
      refine twp_rseq ?_
      iterate 3 (refine s_a tab_ok rfl ?_)
      obtain ⟨g8, hm⟩ := guard_inv hm
      refine s_app (f := (D.int .i64)) p1.sections tab_ok rfl rfl zero3 rfl rfl rfl rfl rfl (fun h => absurd h (Nat.not_lt_zero _)) rfl src_d g8 rfl rfl ?_
      refine s_a tab_ok rfl ?_
      refine tops_nil ?_
      refine w_norm [2, 3, 5] rfl rfl ?_
      refine twp_rseq ?_
      iterate 3 (refine s_a tab_ok rfl ?_)
      obtain ⟨g9, hm⟩ := guard_inv hm
      refine s_app (f := (D.int .i64)) p1.overSections tab_ok rfl rfl zero3 rfl rfl rfl rfl rfl (fun h => absurd h (Nat.not_lt_zero _)) rfl src_d g9 rfl rfl ?_
      refine s_a tab_ok rfl ?_
      refine tops_nil ?_
      refine w_norm [2, 3, 5] rfl rfl ?_
      refine w_joinM hm (fun x10 => ([(4, .d (.bool (x10)))] : Fr)) (fun x10 => ([] : List (Nat × Blk))) [4] [] rfl (fun z11 hm => ?_) (fun x10 hm => ?_)
      · refine twp_region ?_
        iterate 2 (refine s_a tab_ok rfl ?_)
        refine s_x rfl rfl (x_len tab_ok rfl rfl rfl) ?_
        refine s_a tab_ok rfl ?_
        refine s_b tab_ok rfl (fun q12 hq12 => ?_)
        cases q12
        · replace hm := ite_F hq12 hm
          iterate 17 (refine s_a tab_ok rfl ?_)
          refine tops_nil ?_
          refine way_then ?_
          exact ⟨_, [0, 1, 2], (Option.some.inj hm).symm, rfl, k0, rfl⟩
        · replace hm := ite_T hq12 hm
          iterate 2 (refine s_a tab_ok rfl ?_)
          obtain ⟨r13, hr13, hm⟩ := bind_inv hm
          refine s_x rfl rfl (rd_callRN rfl rfl (snaps_cons (.d _) (snaps_cons (snap_map rfl) snaps_nil)) (ref16_sections_c hr13)) ?_
          refine s_a tab_ok rfl ?_
          refine s_b tab_ok rfl (fun q14 hq14 => ?_)
          cases q14
          · replace hm := iteB_F hq14 hm
            iterate 12 (refine s_a tab_ok rfl ?_)
            refine tops_nil ?_
            refine way_then ?_
            exact ⟨_, [0, 1, 2], (Option.some.inj hm).symm, rfl, k0, rfl⟩
          · replace hm := iteB_T hq14 hm
            iterate 4 (refine s_a tab_ok rfl ?_)
            refine s_b tab_ok rfl (fun q15 hq15 => ?_)
            cases q15
            · replace hm := ite_F hq15 hm
              iterate 7 (refine s_a tab_ok rfl ?_)
              refine tops_nil ?_
              refine way_then ?_
              exact ⟨_, [0, 1, 2], (Option.some.inj hm).symm, rfl, k0, rfl⟩
            · replace hm := ite_T hq15 hm
              iterate 7 (refine s_a tab_ok rfl ?_)
              refine tops_nil ?_
              refine way_then ?_
              exact ⟨_, [0, 1, 2], (Option.some.inj hm).symm, rfl, k0, rfl⟩
      · refine w_norm [4] rfl rfl ?_
        refine twp_ret ?_
        obtain rfl := Option.some.inj hm
        exact EndsS.one _ rfl (.d _) (.refl _)

theorem ref16_Index_c {p0 : Table} {p1 : Int} {r : Int} (hm : ref16_Index p0 p1 = some r) : RetN Try.prog 60 [p0.enc, .int .i64 p1] (.int .i64 r) := by
  refine .unit (ret_bodyS callB60 Try.func60 rfl Try.ntmps60 rfl rfl (fun wX gX => ?_)) rfl
  unfold ref16_Index at hm
  refine w_norm [0, 1] rfl rfl ?_
  refine twp_rseq ?_
  refine s_bx 0 rfl rfl rfl ?_
  refine s_a tab_ok rfl ?_
  refine tops_nil ?_
  refine w_norm [1, 2] rfl rfl ?_
  refine w_joinS hm (fun _ => ([] : Fr)) (fun _ => ([] : List (Nat × Blk))) [] [] rfl (fun z1 hm hz1 => ?_) (fun j hm => ?_)
  · refine twp_rseq ?_
    iterate 2 (refine s_a tab_ok rfl ?_)
    refine s_x rfl rfl (x_len tab_ok rfl rfl rfl) ?_
    refine s_a tab_ok rfl ?_
    refine tops_nil ?_
    refine w_norm [1, 8, 9, 10] rfl rfl ?_
    refine twp_block ?_
    refine w_loop hm (fun x3 => ([(10, .d (.int .i64 x3))] : Fr)) (fun x3 => ([] : List (Nat × Blk))) [10] [1, 8, 9] [0] rfl k0 rfl rfl rfl rfl rfl (fun x3 z4 hm hz4 => ?_)
    refine w_norm [1, 8, 9, 10] rfl rfl ?_
    refine twp_rseq ?_
    refine s_a tab_ok rfl ?_
    refine tops_nil ?_
    refine w_norm [1, 8, 9, 10, 11] rfl rfl ?_
    refine twp_seq ?_
    refine twp_cond _ rfl (fun h5 => ?_) (fun h5 => ?_)
    · replace hm := ite_T h5 hm
      refine twp_skip ?_
      refine way_then ?_
      refine w_norm [1, 8, 9, 10] rfl rfl ?_
      refine twp_seq ?_
      refine twp_block ?_
      refine twp_rseq ?_
      refine s_a tab_ok rfl ?_
      obtain ⟨e6, he6, hm⟩ := get_inv hm
      refine s_x rfl rfl (x_ix tab_ok rfl rfl rfl rfl he6) ?_
      iterate 3 (refine s_a tab_ok rfl ?_)
      refine tops_nil ?_
      refine w_norm [1, 5, 6, 8, 9, 10] rfl rfl ?_
      refine twp_rseq ?_
      iterate 3 (refine s_a tab_ok rfl ?_)
      refine tops_nil ?_
      refine w_norm [1, 5, 8, 9, 10, 17] rfl rfl ?_
      refine twp_cond _ rfl (fun h7 => ?_) (fun h7 => ?_)
      · replace hm := ite_T h7 hm
        refine twp_rseq ?_
        iterate 2 (refine s_a tab_ok rfl ?_)
        refine tops_nil ?_
        refine w_norm [4] rfl rfl ?_
        refine twp_ret ?_
        refine way_blockRet ?_
        refine way_thenRet ?_
        obtain ⟨v8, hm, hz⟩ := inr_inv hm
        rw [hz4 _ hz] at hm
        refine way_thenRet ?_
        refine way_blockRet ?_
        obtain ⟨v9, hm, hz⟩ := inr_inv hm
        rw [hz1 _ hz] at hm
        refine way_thenRet ?_
        obtain rfl := Option.some.inj hm
        exact EndsS.one _ rfl (.d _) (.refl _)
      · replace hm := ite_F h7 hm
        refine twp_skip ?_
        refine way_block ?_
        refine way_then ?_
        refine w_norm [1, 8, 9, 10] rfl rfl ?_
        refine twp_region ?_
        obtain ⟨g10, hm⟩ := guard_inv hm
        refine s_x rfl rfl (x_ar rfl rfl rfl rfl g10) ?_
        refine s_a tab_ok rfl ?_
        refine tops_nil ?_
        refine way_then ?_
        exact ⟨_, [0], (Option.some.inj hm).symm, rfl, k0, rfl⟩
    · replace hm := ite_F h5 hm
      refine twp_exit ?_
      refine way_thenExit ?_
      obtain ⟨v11, hm, hz⟩ := inr_inv hm
      rw [hz4 _ hz] at hm
      refine way_thenExit ?_
      refine way_here ?_
      refine way_then ?_
      exact ⟨_, [0], (Option.some.inj hm).symm, rfl, k0, rfl⟩
  · refine w_norm [] rfl rfl ?_
    refine twp_rseq ?_
    refine s_a tab_ok rfl ?_
    refine tops_nil ?_
    refine w_norm [4] rfl rfl ?_
    refine twp_ret ?_
    obtain rfl := Option.some.inj hm
    exact EndsS.one _ rfl (.d _) (.refl _)

theorem ref16_settings_c {p0 : Table} {p1 : (List Setting)} {r : Bool} (hm : ref16_settings p0 p1 = some r) : RetN Try.prog 37 [p0.enc, .sl 2 (p1.map Setting.enc)] (.bool (r)) := by
  refine .unit (ret_bodyS callB37 Try.func37 rfl Try.ntmps37 rfl rfl (fun wX gX => ?_)) rfl
  unfold ref16_settings at hm
  refine w_norm [0, 1] rfl rfl ?_
  refine twp_rseq ?_
  refine s_bx 0 rfl rfl rfl ?_
  refine s_a tab_ok rfl ?_
  refine tops_nil ?_
  refine w_norm [1, 2] rfl rfl ?_
  refine w_joinS hm (fun _ => ([] : Fr)) (fun _ => ([] : List (Nat × Blk))) [] [] rfl (fun z1 hm hz1 => ?_) (fun j hm => ?_)
  · refine twp_rseq ?_
    refine s_a tab_ok rfl ?_
    refine s_x rfl rfl (x_len tab_ok rfl rfl rfl) ?_
    refine s_a tab_ok rfl ?_
    refine tops_nil ?_
    refine w_norm [1, 2, 7, 8, 9] rfl rfl ?_
    refine twp_block ?_
    refine w_loop hm (fun x3 => ([(9, .d (.int .i64 x3))] : Fr)) (fun x3 => ([] : List (Nat × Blk))) [9] [1, 2, 7, 8] [0] rfl k0 rfl rfl rfl rfl rfl (fun x3 z4 hm hz4 => ?_)
    refine w_norm [1, 2, 7, 8, 9] rfl rfl ?_
    refine twp_rseq ?_
    refine s_a tab_ok rfl ?_
    refine tops_nil ?_
    refine w_norm [1, 2, 7, 8, 9, 10] rfl rfl ?_
    refine twp_seq ?_
    refine twp_cond _ rfl (fun h5 => ?_) (fun h5 => ?_)
    · replace hm := ite_T h5 hm
      refine twp_skip ?_
      refine way_then ?_
      refine w_norm [1, 2, 7, 8, 9] rfl rfl ?_
      refine twp_seq ?_
      refine twp_block ?_
      refine twp_rseq ?_
      refine s_a tab_ok rfl ?_
      obtain ⟨e6, he6, hm⟩ := get_inv hm
      refine s_x rfl rfl (x_ix tab_ok rfl rfl rfl rfl he6) ?_
      refine s_a tab_ok rfl ?_
      refine s_al 1 rfl rfl zero83 rfl ?_
      iterate 2 (refine s_a tab_ok rfl ?_)
      refine tops_nil ?_
      refine w_norm [1, 2, 5, 6, 7, 8, 9] rfl rfl ?_
      refine w_joinM hm (fun x7 => ([(43, .d (.bool (x7)))] : Fr)) (fun x7 => ([] : List (Nat × Blk))) [43] [1, 2, 7, 8, 9] rfl (fun z8 hm => ?_) (fun x7 hm => ?_)
      · refine twp_draw follows  ?_
        iterate 3 (refine d_a [0, 1] tab_ok rfl ?_)
        obtain ⟨r9, hr9, hm⟩ := bind_inv hm
        refine d_x [0, 1] rfl rfl (rd_callRN rfl rfl (snaps_cons (.d _) (snaps_cons (.d _) snaps_nil)) (ref16_Index_c hr9)) ?_
        refine d_a [0, 1] tab_ok rfl ?_
        refine d_b [0, 1] tab_ok rfl (fun q10 hq10 => ?_)
        cases q10
        · replace hm := ite_F hq10 hm
          iterate 4 (refine d_a [0, 1] tab_ok rfl ?_)
          refine d_b [0, 1] tab_ok rfl (fun q11 hq11 => ?_)
          cases q11
          · replace hm := ite_F hq11 hm
            iterate 4 (refine d_a [0, 1] tab_ok rfl ?_)
            refine d_b [0, 1] tab_ok rfl (fun q12 hq12 => ?_)
            cases q12
            · replace hm := ite_F hq12 hm
              iterate 2 (refine d_a [0, 1] tab_ok rfl ?_)
              refine d_b [0, 1] tab_ok rfl (fun q13 hq13 => ?_)
              cases q13
              · replace hm := ite_F hq13 hm
                iterate 11 (refine d_a [0, 1] tab_ok rfl ?_)
                refine d_tail ?_ (by kernel_rfl)
                refine tops_nil ?_
                refine way_then ?_
                exact ⟨_, [0, 1], (Option.some.inj hm).symm, rfl, k0, rfl⟩
              · replace hm := ite_T hq13 hm
                iterate 2 (refine d_a [0, 1] tab_ok rfl ?_)
                obtain ⟨g14, hm⟩ := guard_inv hm
                refine d_x [0, 1] rfl rfl (x_ar rfl rfl rfl rfl g14) ?_
                obtain ⟨e15, he15, hm⟩ := get_inv hm
                refine d_x [0, 1] rfl rfl (x_ix tab_ok rfl rfl rfl rfl he15) ?_
                iterate 7 (refine d_a [0, 1] tab_ok rfl ?_)
                refine d_tail ?_ (by kernel_rfl)
                refine tops_nil ?_
                refine way_then ?_
                exact ⟨_, [0, 1], (Option.some.inj hm).symm, rfl, k0, rfl⟩
            · replace hm := ite_T hq12 hm
              iterate 14 (refine d_a [0, 1] tab_ok rfl ?_)
              refine d_tail ?_ (by kernel_rfl)
              refine tops_nil ?_
              refine way_then ?_
              exact ⟨_, [0, 1], (Option.some.inj hm).symm, rfl, k0, rfl⟩
          · replace hm := ite_T hq11 hm
            iterate 19 (refine d_a [0, 1] tab_ok rfl ?_)
            refine d_tail ?_ (by kernel_rfl)
            refine tops_nil ?_
            refine way_then ?_
            exact ⟨_, [0, 1], (Option.some.inj hm).symm, rfl, k0, rfl⟩
        · replace hm := ite_T hq10 hm
          iterate 24 (refine d_a [0, 1] tab_ok rfl ?_)
          refine d_tail ?_ (by kernel_rfl)
          refine tops_nil ?_
          refine way_then ?_
          exact ⟨_, [0, 1], (Option.some.inj hm).symm, rfl, k0, rfl⟩
      · refine w_norm [1, 2, 7, 8, 9, 43] rfl rfl ?_
        refine twp_cond _ rfl (fun h16 => ?_) (fun h16 => ?_)
        · replace hm := iteB_T h16 hm
          refine twp_rseq ?_
          refine s_a tab_ok rfl ?_
          refine tops_nil ?_
          refine w_norm [4] rfl rfl ?_
          refine twp_ret ?_
          refine way_blockRet ?_
          refine way_thenRet ?_
          obtain ⟨v17, hm, hz⟩ := inr_inv hm
          rw [hz4 _ hz] at hm
          refine way_thenRet ?_
          refine way_blockRet ?_
          obtain ⟨v18, hm, hz⟩ := inr_inv hm
          rw [hz1 _ hz] at hm
          refine way_thenRet ?_
          obtain rfl := Option.some.inj hm
          exact EndsS.one _ rfl (.d _) (.refl _)
        · replace hm := iteB_F h16 hm
          refine twp_skip ?_
          refine way_block ?_
          refine way_then ?_
          refine w_norm [1, 2, 7, 8, 9] rfl rfl ?_
          refine twp_region ?_
          obtain ⟨g19, hm⟩ := guard_inv hm
          refine s_x rfl rfl (x_ar rfl rfl rfl rfl g19) ?_
          refine s_a tab_ok rfl ?_
          refine tops_nil ?_
          refine way_then ?_
          exact ⟨_, [0], (Option.some.inj hm).symm, rfl, k0, rfl⟩
    · replace hm := ite_F h5 hm
      refine twp_exit ?_
      refine way_thenExit ?_
      obtain ⟨v20, hm, hz⟩ := inr_inv hm
      rw [hz4 _ hz] at hm
      refine way_thenExit ?_
      refine way_here ?_
      refine way_then ?_
      exact ⟨_, [0], (Option.some.inj hm).symm, rfl, k0, rfl⟩
  · refine w_norm [] rfl rfl ?_
    refine twp_rseq ?_
    refine s_a tab_ok rfl ?_
    refine tops_nil ?_
    refine w_norm [4] rfl rfl ?_
    refine twp_ret ?_
    obtain rfl := Option.some.inj hm
    exact EndsS.one _ rfl (.d _) (.refl _)

theorem ref16_agree_c {p0 : (List Setting)} {p1 : (List Setting)} {r : Bool} (hm : ref16_agree p0 p1 = some r) : RetN Try.prog 38 [.sl 2 (p0.map Setting.enc), .sl 2 (p1.map Setting.enc)] (.bool (r)) := by
  refine .unit (ret_bodyS callB38 Try.func38 rfl Try.ntmps38 rfl rfl (fun wX gX => ?_)) rfl
  unfold ref16_agree at hm
  refine w_norm [0, 1] rfl rfl ?_
  refine twp_rseq ?_
  refine s_a tab_ok rfl ?_
  refine tops_nil ?_
  refine w_norm [0, 1] rfl rfl ?_
  refine w_joinS hm (fun _ => ([] : Fr)) (fun _ => ([] : List (Nat × Blk))) [] [] rfl (fun z1 hm hz1 => ?_) (fun j hm => ?_)
  · refine twp_rseq ?_
    refine s_a tab_ok rfl ?_
    refine s_x rfl rfl (x_len tab_ok rfl rfl rfl) ?_
    refine s_a tab_ok rfl ?_
    refine tops_nil ?_
    refine w_norm [1, 9, 10, 11] rfl rfl ?_
    refine twp_block ?_
    refine w_loop hm (fun x3 => ([(11, .d (.int .i64 x3))] : Fr)) (fun x3 => ([] : List (Nat × Blk))) [11] [1, 9, 10] [] rfl k0 rfl rfl rfl rfl rfl (fun x3 z4 hm hz4 => ?_)
    refine w_norm [1, 9, 10, 11] rfl rfl ?_
    refine twp_rseq ?_
    refine s_a tab_ok rfl ?_
    refine tops_nil ?_
    refine w_norm [1, 9, 10, 11, 12] rfl rfl ?_
    refine twp_seq ?_
    refine twp_cond _ rfl (fun h5 => ?_) (fun h5 => ?_)
    · replace hm := ite_T h5 hm
      refine twp_skip ?_
      refine way_then ?_
      refine w_norm [1, 9, 10, 11] rfl rfl ?_
      refine w_joinS hm (fun _ => ([] : Fr)) (fun _ => ([] : List (Nat × Blk))) [] [1, 9, 10, 11] rfl (fun z6 hm hz6 => ?_) (fun j hm => ?_)
      · refine twp_block ?_
        refine twp_rseq ?_
        obtain ⟨e7, he7, hm⟩ := get_inv hm
        refine s_x rfl rfl (x_ix tab_ok rfl rfl rfl rfl he7) ?_
        refine s_a tab_ok rfl ?_
        refine s_al 0 rfl rfl zero83 rfl ?_
        refine s_a tab_ok rfl ?_
        refine tops_nil ?_
        refine w_norm [1, 6, 9, 10, 11] rfl rfl ?_
        refine twp_rseq ?_
        refine s_a tab_ok rfl ?_
        refine s_x rfl rfl (x_len tab_ok rfl rfl rfl) ?_
        refine s_a tab_ok rfl ?_
        refine tops_nil ?_
        refine w_norm [1, 6, 9, 10, 11, 15, 16, 17] rfl rfl ?_
        refine twp_block ?_
        refine w_loop hm (fun x9 => ([(17, .d (.int .i64 x9))] : Fr)) (fun x9 => ([] : List (Nat × Blk))) [17] [1, 6, 9, 10, 11, 15, 16] [0] rfl k0 rfl rfl rfl rfl rfl (fun x9 z10 hm hz10 => ?_)
        refine w_norm [1, 6, 9, 10, 11, 15, 16, 17] rfl rfl ?_
        refine twp_rseq ?_
        refine s_a tab_ok rfl ?_
        refine tops_nil ?_
        refine w_norm [1, 6, 9, 10, 11, 15, 16, 17, 18] rfl rfl ?_
        refine twp_seq ?_
        refine twp_cond _ rfl (fun h11 => ?_) (fun h11 => ?_)
        · replace hm := ite_T h11 hm
          refine twp_skip ?_
          refine way_then ?_
          refine w_norm [1, 6, 9, 10, 11, 15, 16, 17] rfl rfl ?_
          refine twp_seq ?_
          refine twp_block ?_
          refine twp_rseq ?_
          obtain ⟨e12, he12, hm⟩ := get_inv hm
          refine s_x rfl rfl (x_ix tab_ok rfl rfl rfl rfl he12) ?_
          refine s_a tab_ok rfl ?_
          refine s_al 1 rfl rfl zero83 rfl ?_
          refine s_a tab_ok rfl ?_
          refine tops_nil ?_
          refine w_norm [1, 6, 8, 9, 10, 11, 15, 16, 17] rfl rfl ?_
          refine w_cut [(32, .d (.bool (((decide (e7.el = e12.el)) && (!(decide (e7.pos = e12.pos)))))))] [32] [1, 6, 9, 10, 11, 15, 16, 17] rfl ?_ ?_
          · refine twp_region ?_
            iterate 5 (refine s_a tab_ok rfl ?_)
            refine s_b tab_ok rfl (fun q13 hq13 => ?_)
            cases q13
            · iterate 6 (refine s_a tab_ok rfl ?_)
              refine tops_nil ?_
              refine way_then ?_
              exact ⟨[0, 1], rfl, k0, st_eq (fr_cons (av_bool (by simp [hq13])) rfl) rfl⟩
            · iterate 6 (refine s_a tab_ok rfl ?_)
              refine tops_nil ?_
              refine way_then ?_
              exact ⟨[0, 1], rfl, k0, st_eq (fr_cons (av_bool (by simp [hq13])) rfl) rfl⟩
          · refine w_norm [1, 6, 9, 10, 11, 15, 16, 17, 32] rfl rfl ?_
            refine twp_cond _ rfl (fun h14 => ?_) (fun h14 => ?_)
            · replace hm := iteB_T h14 hm
              refine twp_rseq ?_
              refine s_a tab_ok rfl ?_
              refine tops_nil ?_
              refine w_norm [4] rfl rfl ?_
              refine twp_ret ?_
              refine way_blockRet ?_
              refine way_thenRet ?_
              obtain ⟨v15, hm, hz⟩ := inr_inv hm
              rw [hz10 _ hz] at hm
              refine way_thenRet ?_
              refine way_blockRet ?_
              refine way_blockRet ?_
              obtain ⟨v16, hm, hz⟩ := inr_inv hm
              rw [hz6 _ hz] at hm
              refine way_thenRet ?_
              obtain ⟨v17, hm, hz⟩ := inr_inv hm
              rw [hz4 _ hz] at hm
              refine way_thenRet ?_
              refine way_blockRet ?_
              obtain ⟨v18, hm, hz⟩ := inr_inv hm
              rw [hz1 _ hz] at hm
              refine way_thenRet ?_
              obtain rfl := Option.some.inj hm
              exact EndsS.one _ rfl (.d _) (.refl _)
            · replace hm := iteB_F h14 hm
              refine twp_skip ?_
              refine way_block ?_
              refine way_then ?_
              refine w_norm [1, 6, 9, 10, 11, 15, 16, 17] rfl rfl ?_
              refine twp_region ?_
              obtain ⟨g19, hm⟩ := guard_inv hm
              refine s_x rfl rfl (x_ar rfl rfl rfl rfl g19) ?_
              refine s_a tab_ok rfl ?_
              refine tops_nil ?_
              refine way_then ?_
              exact ⟨_, [0], (Option.some.inj hm).symm, rfl, k0, rfl⟩
        · replace hm := ite_F h11 hm
          refine twp_exit ?_
          refine way_thenExit ?_
          obtain ⟨v20, hm, hz⟩ := inr_inv hm
          rw [hz10 _ hz] at hm
          refine way_thenExit ?_
          refine way_here ?_
          refine way_block ?_
          refine way_then ?_
          exact ⟨_, [], (Option.some.inj hm).symm, rfl, k0, rfl⟩
      · refine w_norm [1, 9, 10, 11] rfl rfl ?_
        refine twp_region ?_
        obtain ⟨g21, hm⟩ := guard_inv hm
        refine s_x rfl rfl (x_ar rfl rfl rfl rfl g21) ?_
        refine s_a tab_ok rfl ?_
        refine tops_nil ?_
        refine way_then ?_
        exact ⟨_, [], (Option.some.inj hm).symm, rfl, k0, rfl⟩
    · replace hm := ite_F h5 hm
      refine twp_exit ?_
      refine way_thenExit ?_
      obtain ⟨v22, hm, hz⟩ := inr_inv hm
      rw [hz4 _ hz] at hm
      refine way_thenExit ?_
      refine way_here ?_
      refine way_then ?_
      exact ⟨_, [], (Option.some.inj hm).symm, rfl, k0, rfl⟩
  · refine w_norm [] rfl rfl ?_
    refine twp_rseq ?_
    refine s_a tab_ok rfl ?_
    refine tops_nil ?_
    refine w_norm [4] rfl rfl ?_
    refine twp_ret ?_
    obtain rfl := Option.some.inj hm
    exact EndsS.one _ rfl (.d _) (.refl _)

end Go.Proofs.Ythkgkolgdkcngaa
