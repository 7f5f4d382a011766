/- The functions return what their models yield. No condition. -/
import Derived.Test.YthkgkolgdkcngaaGnU
import Derived.Test.YthkgkolgdkcngaaGnM
import Derived.Test.YthkgkolgdkcngaaGnW4
set_option maxHeartbeats 400000
set_option linter.unusedSimpArgs false
set_option linter.unusedVariables false
set_option maxRecDepth 20000
namespace Go.Proofs.Ythkgkolgdkcngaa
open Go Go.TL

theorem ref02_Has_c {p0 : (List Int)} {p1 : Int} {r : Bool} (hm : ref02_Has p0 p1 = some r) : RetN Try.prog 54 [.sl 1 (p0.map (D.int .i64)), .int .i64 p1] (.bool (r)) := by
  refine .unit (ret_bodyS callB54 Try.func54 rfl Try.ntmps54 rfl rfl (fun wX gX => ?_)) rfl
  unfold ref02_Has at hm
  refine w_norm [0, 1] rfl rfl ?_
  refine twp_rseq ?_
  refine s_a tab_ok rfl ?_
  refine tops_nil ?_
  refine w_norm [0, 1] rfl rfl ?_
  refine w_joinS hm (fun _ => ([] : Fr)) (fun _ => ([] : List (Nat × Blk))) [] [] rfl (fun z1 hm hz1 => ?_) (fun j hm => ?_)
  · refine twp_rseq ?_
    refine s_a tab_ok rfl ?_
    refine tops_nil ?_
    refine w_norm [0, 1, 5] rfl rfl ?_
    refine twp_block ?_
    refine w_loop hm (fun i3 => ([(5, .d (.int .i64 i3))] : Fr)) (fun i3 => ([] : List (Nat × Blk))) [5] [0, 1] [] rfl k0 rfl rfl rfl rfl rfl (fun i3 z4 hm hz4 => ?_)
    refine w_norm [0, 1, 5] rfl rfl ?_
    refine twp_seq ?_
    refine twp_rseq ?_
    iterate 2 (refine s_a tab_ok rfl ?_)
    refine s_x rfl rfl (x_len tab_ok rfl rfl rfl) ?_
    refine s_a tab_ok rfl ?_
    refine tops_nil ?_
    refine w_norm [0, 1, 5, 9] rfl rfl ?_
    refine twp_cond _ rfl (fun h5 => ?_) (fun h5 => ?_)
    · replace hm := ite_T h5 hm
      refine twp_skip ?_
      refine way_then ?_
      refine w_norm [0, 1, 5] rfl rfl ?_
      refine twp_seq ?_
      refine twp_block ?_
      refine twp_rseq ?_
      iterate 2 (refine s_a tab_ok rfl ?_)
      obtain ⟨e6, he6, hm⟩ := get_inv hm
      refine s_x rfl rfl (x_ix tab_ok rfl rfl rfl rfl he6) ?_
      iterate 3 (refine s_a tab_ok rfl ?_)
      refine tops_nil ?_
      refine w_norm [0, 1, 5, 17] rfl rfl ?_
      refine twp_cond _ rfl (fun h7 => ?_) (fun h7 => ?_)
      · replace hm := ite_T h7 hm
        refine twp_rseq ?_
        refine s_a tab_ok rfl ?_
        refine tops_nil ?_
        refine w_norm [4] rfl rfl ?_
        refine twp_ret ?_
        refine way_blockRet ?_
        refine way_thenRet ?_
        obtain ⟨v8, hm, hz⟩ := inr_inv hm
        rw [hz4 _ hz] at hm
        refine way_thenRet ?_
        refine way_blockRet ?_
        obtain ⟨v9, hm, hz⟩ := inr_inv hm
        rw [hz1 _ hz] at hm
        refine way_thenRet ?_
        obtain rfl := Option.some.inj hm
        exact EndsS.one _ rfl (.d _) (.refl _)
      · replace hm := ite_F h7 hm
        refine twp_skip ?_
        refine way_block ?_
        refine way_then ?_
        refine w_norm [0, 1, 5] rfl rfl ?_
        refine twp_region ?_
        refine s_a tab_ok rfl ?_
        obtain ⟨g10, hm⟩ := guard_inv hm
        refine s_x rfl rfl (x_ar rfl rfl rfl rfl g10) ?_
        refine s_a tab_ok rfl ?_
        refine tops_nil ?_
        refine way_then ?_
        exact ⟨_, [], (Option.some.inj hm).symm, rfl, k0, rfl⟩
    · replace hm := ite_F h5 hm
      refine twp_exit ?_
      refine way_thenExit ?_
      obtain ⟨v11, hm, hz⟩ := inr_inv hm
      rw [hz4 _ hz] at hm
      refine way_thenExit ?_
      refine way_here ?_
      refine way_then ?_
      exact ⟨_, [], (Option.some.inj hm).symm, rfl, k0, rfl⟩
  · refine w_norm [] rfl rfl ?_
    refine twp_rseq ?_
    refine s_a tab_ok rfl ?_
    refine tops_nil ?_
    refine w_norm [4] rfl rfl ?_
    refine twp_ret ?_
    obtain rfl := Option.some.inj hm
    exact EndsS.one _ rfl (.d _) (.refl _)

theorem ref21_over_c {p0 : Table} {p1 : Inter} {p2 : Int} {r : (List Int)} (hm : ref21_over p0 p1 p2 = some r) : RetD Try.prog 73 [p0.enc, p1.enc, .int .i64 p2] (.sl 1 (r.map (D.int .i64))) := by
  refine .of (mv := fun _ => false) (ret_bodyS callB73 Try.func73 rfl Try.ntmps73 rfl rfl (fun wX gX => ?_))
  unfold ref21_over at hm
  refine w_norm [0, 1, 2] rfl rfl ?_
  refine twp_rseq ?_
  refine s_bx 0 rfl rfl rfl ?_
  refine s_bx 1 rfl rfl rfl ?_
  refine s_a tab_ok rfl ?_
  refine tops_nil ?_
  refine w_norm [2, 3, 4] rfl rfl ?_
  refine twp_seq ?_
  refine twp_rseq ?_
  iterate 3 (refine s_a tab_ok rfl ?_)
  obtain ⟨e1, he1, hm⟩ := get_inv hm
  refine s_x rfl rfl (x_ix tab_ok rfl rfl rfl rfl he1) ?_
  iterate 3 (refine s_a tab_ok rfl ?_)
  refine tops_nil ?_
  refine w_norm [2, 3, 13] rfl rfl ?_
  refine twp_cond _ rfl (fun h2 => ?_) (fun h2 => ?_)
  · replace hm := ite_T h2 hm
    refine twp_rseq ?_
    refine s_a tab_ok rfl ?_
    refine tops_nil ?_
    refine c_wk 6 [some 1] rfl ?_
    refine w_norm [6] rfl rfl ?_
    refine twp_ret ?_
    refine way_thenRet ?_
    obtain rfl := Option.some.inj hm
    exact EndsS.one _ rfl (.d _) (.refl _)
  · replace hm := ite_F h2 hm
    refine twp_skip ?_
    refine way_then ?_
    refine w_norm [2, 3] rfl rfl ?_
    refine twp_rseq ?_
    refine s_litO (f := (D.int .i64)) 2 [] ([] : List Int) tab_ok rfl rfl rfl zero3 rfl rfl rfl rfl rfl ?_
    iterate 3 (refine s_a tab_ok rfl ?_)
    obtain ⟨e3, he3, hm⟩ := get_inv hm
    refine s_x rfl rfl (x_ix tab_ok rfl rfl rfl rfl he3) ?_
    iterate 2 (refine s_a tab_ok rfl ?_)
    obtain ⟨g4, hm⟩ := guard_inv hm
    refine s_app (f := (D.int .i64)) e3.overSections tab_ok rfl rfl zero3 rfl rfl rfl rfl rfl (fun h => absurd h (Nat.not_lt_zero _)) rfl src_d g4 rfl rfl ?_
    refine s_a tab_ok rfl ?_
    refine tops_nil ?_
    refine w_norm [6] rfl rfl ?_
    refine twp_ret ?_
    obtain rfl := Option.some.inj hm
    exact EndsS.one _ rfl (snap_map rfl) (.refl _)

theorem ref21_Over_c {p0 : Table} {p1 : Inter} {p2 : Int} {r : (List Int)} (hm : ref21_Over p0 p1 p2 = some r) : RetD Try.prog 56 [p0.enc, p1.enc, .int .i64 p2] (.sl 1 (r.map (D.int .i64))) := by
  refine .of (mv := fun _ => false) (ret_bodyS callB56 Try.func56 rfl Try.ntmps56 rfl rfl (fun wX gX => ?_))
  unfold ref21_Over at hm
  refine w_norm [0, 1, 2] rfl rfl ?_
  refine twp_rseq ?_
  refine s_bx 0 rfl rfl rfl ?_
  refine s_bx 1 rfl rfl rfl ?_
  refine s_a tab_ok rfl ?_
  refine tops_nil ?_
  refine w_norm [2, 3, 4] rfl rfl ?_
  refine twp_seq ?_
  refine twp_rseq ?_
  iterate 3 (refine s_a tab_ok rfl ?_)
  obtain ⟨r1, hr1, hm⟩ := bind_inv hm
  refine s_x rfl rfl (rd_callRN rfl rfl (snaps_cons (.d _) (snaps_cons (.d _) (snaps_cons (.d _) snaps_nil))) (ref21_locked_c hr1)) ?_
  refine s_a tab_ok rfl ?_
  refine tops_nil ?_
  refine w_norm [2, 3, 4, 11] rfl rfl ?_
  refine twp_cond _ rfl (fun h2 => ?_) (fun h2 => ?_)
  · replace hm := iteB_T h2 hm
    refine twp_rseq ?_
    refine s_a tab_ok rfl ?_
    refine tops_nil ?_
    refine c_wk 6 [some 1] rfl ?_
    refine w_norm [6] rfl rfl ?_
    refine twp_ret ?_
    refine way_thenRet ?_
    obtain rfl := Option.some.inj hm
    exact EndsS.one _ rfl (.d _) (.refl _)
  · replace hm := iteB_F h2 hm
    refine twp_skip ?_
    refine way_then ?_
    refine w_norm [2, 3, 4] rfl rfl ?_
    refine twp_rseq ?_
    iterate 3 (refine s_a tab_ok rfl ?_)
    obtain ⟨r3, hr3, hm⟩ := bind_inv hm
    refine s_x rfl rfl (rd_callRD rfl rfl rfl (ref21_over_c hr3)) ?_
    refine s_a tab_ok rfl ?_
    refine tops_nil ?_
    refine w_norm [6] rfl rfl ?_
    refine twp_ret ?_
    obtain rfl := Option.some.inj hm
    exact EndsS.one _ rfl (.d _) (.refl _)

theorem ref42_Locked_c {p0 : Table} {p1 : Inter} {p2 : Int} {r : Bool} (hm : ref42_Locked p0 p1 p2 = some r) : RetN Try.prog 32 [p0.enc, p1.enc, .int .i64 p2] (.bool (r)) := by
  refine .unit (ret_bodyS callB32 Try.func32 rfl Try.ntmps32 rfl rfl (fun wX gX => ?_)) rfl
  unfold ref42_Locked at hm
  refine w_norm [0, 1, 2] rfl rfl ?_
  refine twp_rseq ?_
  refine s_bx 0 rfl rfl rfl ?_
  refine s_bx 1 rfl rfl rfl ?_
  refine s_a tab_ok rfl ?_
  refine tops_nil ?_
  refine w_norm [2, 3, 4] rfl rfl ?_
  refine w_joinS hm (fun _ => ([] : Fr)) (fun _ => ([] : List (Nat × Blk))) [] [] rfl (fun z1 hm hz1 => ?_) (fun j hm => ?_)
  · refine twp_rseq ?_
    refine s_a tab_ok rfl ?_
    refine tops_nil ?_
    refine w_norm [2, 3, 4, 7] rfl rfl ?_
    refine twp_block ?_
    refine w_loop hm (fun x3 => ([(7, .d (.int .i64 x3))] : Fr)) (fun x3 => ([] : List (Nat × Blk))) [7] [2, 3, 4] [0, 1] rfl k0 rfl rfl rfl rfl rfl (fun x3 z4 hm hz4 => ?_)
    refine w_norm [2, 3, 4, 7] rfl rfl ?_
    refine twp_seq ?_
    refine twp_rseq ?_
    iterate 3 (refine s_a tab_ok rfl ?_)
    refine s_x rfl rfl (x_len tab_ok rfl rfl rfl) ?_
    refine s_a tab_ok rfl ?_
    refine tops_nil ?_
    refine w_norm [2, 3, 4, 7, 12] rfl rfl ?_
    refine twp_cond _ rfl (fun h5 => ?_) (fun h5 => ?_)
    · replace hm := ite_T h5 hm
      refine twp_skip ?_
      refine way_then ?_
      refine w_norm [2, 3, 4, 7] rfl rfl ?_
      refine twp_seq ?_
      refine twp_block ?_
      refine w_joinM hm (fun x6 => ([(28, .d (.bool (x6)))] : Fr)) (fun x6 => ([] : List (Nat × Blk))) [28] [2, 3, 4, 7] rfl (fun z7 hm => ?_) (fun x6 hm => ?_)
      · refine twp_region ?_
        iterate 3 (refine s_a tab_ok rfl ?_)
        obtain ⟨r8, hr8, hm⟩ := bind_inv hm
        refine s_x rfl rfl (rd_callRD rfl rfl rfl (ref21_Path_c hr8)) ?_
        refine s_a tab_ok rfl ?_
        obtain ⟨r9, hr9, hm⟩ := bind_inv hm
        refine s_x rfl rfl (rd_callRN rfl rfl (snaps_cons (.d _) (snaps_cons (.d _) snaps_nil)) (ref02_Has_c hr9)) ?_
        refine s_b tab_ok rfl (fun q10 hq10 => ?_)
        cases q10
        · replace hm := iteB_F hq10 hm
          iterate 3 (refine s_a tab_ok rfl ?_)
          obtain ⟨r11, hr11, hm⟩ := bind_inv hm
          refine s_x rfl rfl (rd_callRD rfl rfl rfl (ref21_Over_c hr11)) ?_
          refine s_a tab_ok rfl ?_
          obtain ⟨r12, hr12, hm⟩ := bind_inv hm
          refine s_x rfl rfl (rd_callRN rfl rfl (snaps_cons (.d _) (snaps_cons (.d _) snaps_nil)) (ref02_Has_c hr12)) ?_
          refine s_a tab_ok rfl ?_
          refine tops_nil ?_
          refine way_then ?_
          exact ⟨_, [0, 1], (Option.some.inj hm).symm, rfl, k0, rfl⟩
        · replace hm := iteB_T hq10 hm
          iterate 7 (refine s_a tab_ok rfl ?_)
          refine tops_nil ?_
          refine way_then ?_
          exact ⟨_, [0, 1], (Option.some.inj hm).symm, rfl, k0, rfl⟩
      · refine w_norm [2, 3, 4, 7, 28] rfl rfl ?_
        refine twp_cond _ rfl (fun h13 => ?_) (fun h13 => ?_)
        · replace hm := iteB_T h13 hm
          refine twp_rseq ?_
          refine s_a tab_ok rfl ?_
          refine tops_nil ?_
          refine w_norm [6] rfl rfl ?_
          refine twp_ret ?_
          refine way_blockRet ?_
          refine way_thenRet ?_
          obtain ⟨v14, hm, hz⟩ := inr_inv hm
          rw [hz4 _ hz] at hm
          refine way_thenRet ?_
          refine way_blockRet ?_
          obtain ⟨v15, hm, hz⟩ := inr_inv hm
          rw [hz1 _ hz] at hm
          refine way_thenRet ?_
          obtain rfl := Option.some.inj hm
          exact EndsS.one _ rfl (.d _) (.refl _)
        · replace hm := iteB_F h13 hm
          refine twp_skip ?_
          refine way_block ?_
          refine way_then ?_
          refine w_norm [2, 3, 4, 7] rfl rfl ?_
          refine twp_region ?_
          refine s_a tab_ok rfl ?_
          obtain ⟨g16, hm⟩ := guard_inv hm
          refine s_x rfl rfl (x_ar rfl rfl rfl rfl g16) ?_
          refine s_a tab_ok rfl ?_
          refine tops_nil ?_
          refine way_then ?_
          exact ⟨_, [0, 1], (Option.some.inj hm).symm, rfl, k0, rfl⟩
    · replace hm := ite_F h5 hm
      refine twp_exit ?_
      refine way_thenExit ?_
      obtain ⟨v17, hm, hz⟩ := inr_inv hm
      rw [hz4 _ hz] at hm
      refine way_thenExit ?_
      refine way_here ?_
      refine way_then ?_
      exact ⟨_, [0, 1], (Option.some.inj hm).symm, rfl, k0, rfl⟩
  · refine w_norm [] rfl rfl ?_
    refine twp_rseq ?_
    refine s_a tab_ok rfl ?_
    refine tops_nil ?_
    refine w_norm [6] rfl rfl ?_
    refine twp_ret ?_
    obtain rfl := Option.some.inj hm
    exact EndsS.one _ rfl (.d _) (.refl _)

theorem ref42_Take_c {p0 : Table} {p1 : Inter} {p2 : (List Possession)} {p3 : Possession} {r0 : (List Possession)} {r1 : Int} (hm : ref42_Take p0 p1 p2 p3 = some (r0, r1)) : RetT Try.prog 12 [p0.enc, p1.enc, .sl 4 (p2.map Possession.enc), p3.enc] [.sl 4 (r0.map Possession.enc), .int .i64 r1] := by
  refine .of (mv := fun _ => false) (ret_bodyT callB12 Try.func12 rfl Try.ntmps12 rfl rfl (fun wX gX => ?_))
  unfold ref42_Take at hm
  refine w_norm [0, 1, 2, 3] rfl rfl ?_
  refine twp_rseq ?_
  refine s_bx 0 rfl rfl rfl ?_
  refine s_bx 1 rfl rfl rfl ?_
  refine s_bx 2 rfl rfl rfl ?_
  iterate 2 (refine s_a tab_ok rfl ?_)
  refine tops_nil ?_
  refine w_norm [2, 4, 5, 7] rfl rfl ?_
  refine twp_seq ?_
  refine w_joinM hm (fun x1 => ([(43, .d (.bool (x1)))] : Fr)) (fun x1 => ([] : List (Nat × Blk))) [43] [2, 4, 5, 7] rfl (fun z2 hm => ?_) (fun x1 hm => ?_)
  · refine twp_region ?_
    refine s_a tab_ok rfl ?_
    obtain ⟨r3, hr3, hm⟩ := bind_inv hm
    refine s_x rfl rfl (rd_callRN rfl rfl (snaps_cons (.d _) snaps_nil) (ref16_Check_c hr3)) ?_
    refine s_a tab_ok rfl ?_
    refine s_b tab_ok rfl (fun q4 hq4 => ?_)
    cases q4
    · replace hm := iteN_F hq4 hm
      iterate 4 (refine s_a tab_ok rfl ?_)
      refine s_b tab_ok rfl (fun q5 hq5 => ?_)
      cases q5
      · replace hm := ite_F hq5 hm
        iterate 6 (refine s_a tab_ok rfl ?_)
        refine s_b tab_ok rfl (fun q6 hq6 => ?_)
        cases q6
        · replace hm := ite_F hq6 hm
          iterate 4 (refine s_a tab_ok rfl ?_)
          refine s_b tab_ok rfl (fun q7 hq7 => ?_)
          cases q7
          · replace hm := ite_F hq7 hm
            iterate 4 (refine s_a tab_ok rfl ?_)
            refine s_b tab_ok rfl (fun q8 hq8 => ?_)
            cases q8
            · replace hm := ite_F hq8 hm
              iterate 6 (refine s_a tab_ok rfl ?_)
              refine tops_nil ?_
              refine way_then ?_
              exact ⟨_, [0, 1, 2], (Option.some.inj hm).symm, rfl, k0, rfl⟩
            · replace hm := ite_T hq8 hm
              iterate 6 (refine s_a tab_ok rfl ?_)
              refine tops_nil ?_
              refine way_then ?_
              exact ⟨_, [0, 1, 2], (Option.some.inj hm).symm, rfl, k0, rfl⟩
          · replace hm := ite_T hq7 hm
            iterate 11 (refine s_a tab_ok rfl ?_)
            refine tops_nil ?_
            refine way_then ?_
            exact ⟨_, [0, 1, 2], (Option.some.inj hm).symm, rfl, k0, rfl⟩
        · replace hm := ite_T hq6 hm
          iterate 16 (refine s_a tab_ok rfl ?_)
          refine tops_nil ?_
          refine way_then ?_
          exact ⟨_, [0, 1, 2], (Option.some.inj hm).symm, rfl, k0, rfl⟩
      · replace hm := ite_T hq5 hm
        iterate 23 (refine s_a tab_ok rfl ?_)
        refine tops_nil ?_
        refine way_then ?_
        exact ⟨_, [0, 1, 2], (Option.some.inj hm).symm, rfl, k0, rfl⟩
    · replace hm := iteN_T hq4 hm
      iterate 28 (refine s_a tab_ok rfl ?_)
      refine tops_nil ?_
      refine way_then ?_
      exact ⟨_, [0, 1, 2], (Option.some.inj hm).symm, rfl, k0, rfl⟩
  · refine w_norm [2, 4, 5, 7, 43] rfl rfl ?_
    refine twp_cond _ rfl (fun h9 => ?_) (fun h9 => ?_)
    · replace hm := iteB_T h9 hm
      refine twp_rseq ?_
      iterate 2 (refine s_a tab_ok rfl ?_)
      refine tops_nil ?_
      refine c_wk 8 [some 4] rfl ?_
      refine w_norm [8, 9] rfl rfl ?_
      refine twp_ret ?_
      refine way_thenRet ?_
      obtain ⟨rfl, rfl⟩ := Prod.mk.inj (Option.some.inj hm)
      exact EndsT.two rfl (.d _) (.refl _) (.d _) (.refl _)
    · replace hm := iteB_F h9 hm
      refine twp_skip ?_
      refine way_then ?_
      refine w_norm [2, 4, 5, 7] rfl rfl ?_
      refine twp_seq ?_
      refine twp_rseq ?_
      iterate 3 (refine s_a tab_ok rfl ?_)
      obtain ⟨r10, hr10, hm⟩ := bind_inv hm
      refine s_x rfl rfl (rd_callRN rfl rfl (snaps_cons (.d _) (snaps_cons (.d _) snaps_nil)) (ref42_find_c hr10)) ?_
      refine s_a tab_ok rfl ?_
      refine tops_nil ?_
      refine w_norm [2, 4, 5, 7, 48] rfl rfl ?_
      refine twp_cond _ rfl (fun h11 => ?_) (fun h11 => ?_)
      · replace hm := ite_T h11 hm
        refine twp_rseq ?_
        iterate 2 (refine s_a tab_ok rfl ?_)
        refine tops_nil ?_
        refine c_wk 8 [some 4] rfl ?_
        refine w_norm [8, 9] rfl rfl ?_
        refine twp_ret ?_
        refine way_thenRet ?_
        obtain ⟨rfl, rfl⟩ := Prod.mk.inj (Option.some.inj hm)
        exact EndsT.two rfl (.d _) (.refl _) (.d _) (.refl _)
      · replace hm := ite_F h11 hm
        refine twp_skip ?_
        refine way_then ?_
        refine w_norm [2, 4, 5, 7] rfl rfl ?_
        refine twp_seq ?_
        refine twp_rseq ?_
        refine s_a tab_ok rfl ?_
        refine s_x rfl rfl (x_len tab_ok rfl rfl rfl) ?_
        refine s_a tab_ok rfl ?_
        refine tops_nil ?_
        refine w_norm [2, 4, 5, 7, 51] rfl rfl ?_
        refine twp_cond _ rfl (fun h12 => ?_) (fun h12 => ?_)
        · replace hm := ite_T h12 hm
          refine twp_rseq ?_
          iterate 2 (refine s_a tab_ok rfl ?_)
          refine tops_nil ?_
          refine c_wk 8 [some 4] rfl ?_
          refine w_norm [8, 9] rfl rfl ?_
          refine twp_ret ?_
          refine way_thenRet ?_
          obtain ⟨rfl, rfl⟩ := Prod.mk.inj (Option.some.inj hm)
          exact EndsT.two rfl (.d _) (.refl _) (.d _) (.refl _)
        · replace hm := ite_F h12 hm
          refine twp_skip ?_
          refine way_then ?_
          refine w_norm [2, 4, 5, 7] rfl rfl ?_
          refine twp_seq ?_
          refine twp_rseq ?_
          iterate 4 (refine s_a tab_ok rfl ?_)
          obtain ⟨r13, hr13, hm⟩ := bind_inv hm
          refine s_x rfl rfl (rd_callRN rfl rfl (snaps_cons (.d _) (snaps_cons (.d _) (snaps_cons (.d _) snaps_nil))) (ref42_Locked_c hr13)) ?_
          refine tops_nil ?_
          refine w_norm [2, 7, 56] rfl rfl ?_
          refine twp_cond _ rfl (fun h14 => ?_) (fun h14 => ?_)
          · replace hm := iteB_T h14 hm
            refine twp_rseq ?_
            iterate 2 (refine s_a tab_ok rfl ?_)
            refine tops_nil ?_
            refine c_wk 8 [some 4] rfl ?_
            refine w_norm [8, 9] rfl rfl ?_
            refine twp_ret ?_
            refine way_thenRet ?_
            obtain ⟨rfl, rfl⟩ := Prod.mk.inj (Option.some.inj hm)
            exact EndsT.two rfl (.d _) (.refl _) (.d _) (.refl _)
          · replace hm := iteB_F h14 hm
            refine twp_skip ?_
            refine way_then ?_
            refine w_norm [2, 7] rfl rfl ?_
            refine twp_rseq ?_
            refine s_nilO (f := Possession.enc) 3 31 4 rfl rfl rfl ?_
            refine tops_nil ?_
            refine w_norm [2, 7, 10] rfl rfl ?_
            refine twp_rseq ?_
            refine s_a tab_ok rfl ?_
            refine tops_nil ?_
            refine w_norm [2, 7, 10, 11] rfl rfl ?_
            refine w_joinM hm (fun (x15, b16) => ([(10, .msl 3 4 0 b16.length), (11, .d (.int .i64 x15))] : Fr)) (fun (x15, b16) => ([(3, .flat 31 4 (b16.map Possession.enc))] : List (Nat × Blk))) [10, 11] [2, 7] rfl (fun z17 hm => ?_) (fun j hm => ?_)
            · refine twp_block ?_
              refine w_loop hm (fun (x21, b22) => ([(10, .msl 3 4 0 b22.length), (11, .d (.int .i64 x21))] : Fr)) (fun (x21, b22) => ([(3, .flat 31 4 (b22.map Possession.enc))] : List (Nat × Blk))) [10, 11] [2, 7] [0, 1, 2, 3] rfl k0 rfl rfl rfl rfl rfl (fun s z23 hm hz23 => ?_)
              obtain ⟨x21, b22⟩ := s
              refine w_norm [2, 7, 10, 11] rfl rfl ?_
              refine twp_seq ?_
              refine w_joinM hm (fun x24 => ([(70, .d (.bool (x24)))] : Fr)) (fun x24 => ([] : List (Nat × Blk))) [70] [2, 7, 10, 11] rfl (fun z25 hm => ?_) (fun x24 hm => ?_)
              · refine twp_draw follows  ?_
                iterate 2 (refine d_a [0, 1, 2, 3] tab_ok rfl ?_)
                refine d_x [0, 1, 2, 3] rfl rfl (x_len tab_ok rfl rfl rfl) ?_
                refine d_a [0, 1, 2, 3] tab_ok rfl ?_
                refine d_b [0, 1, 2, 3] tab_ok rfl (fun q26 hq26 => ?_)
                cases q26
                · replace hm := ite_F hq26 hm
                  iterate 9 (refine d_a [0, 1, 2, 3] tab_ok rfl ?_)
                  refine d_tail ?_ (by kernel_rfl)
                  refine tops_nil ?_
                  refine way_then ?_
                  exact ⟨_, [0, 1, 2, 3], (Option.some.inj hm).symm, rfl, k0, rfl⟩
                · replace hm := ite_T hq26 hm
                  iterate 2 (refine d_a [0, 1, 2, 3] tab_ok rfl ?_)
                  obtain ⟨e27, he27, hm⟩ := get_inv hm
                  refine d_x [0, 1, 2, 3] rfl rfl (x_ix tab_ok rfl rfl rfl rfl he27) ?_
                  iterate 6 (refine d_a [0, 1, 2, 3] tab_ok rfl ?_)
                  refine d_tail ?_ (by kernel_rfl)
                  refine tops_nil ?_
                  refine way_then ?_
                  exact ⟨_, [0, 1, 2, 3], (Option.some.inj hm).symm, rfl, k0, rfl⟩
              · refine w_norm [2, 7, 10, 11, 70] rfl rfl ?_
                refine twp_cond _ rfl (fun h28 => ?_) (fun h28 => ?_)
                · replace hm := iteB_T h28 hm
                  refine twp_skip ?_
                  refine way_then ?_
                  refine w_norm [2, 7, 10, 11] rfl rfl ?_
                  refine twp_block ?_
                  refine twp_rseq ?_
                  iterate 3 (refine s_a tab_ok rfl ?_)
                  obtain ⟨e29, he29, hm⟩ := get_inv hm
                  refine s_x rfl rfl (x_ix tab_ok rfl rfl rfl rfl he29) ?_
                  refine s_a tab_ok rfl ?_
                  refine s_x rfl rfl (x_lit [.tmp 75] tab_ok rfl rfl zero31 rfl rfl rfl rfl rfl) ?_
                  obtain ⟨g30, hm⟩ := guard_inv hm
                  refine s_app (f := Possession.enc) ([e29] : List Possession) tab_ok rfl rfl zero31 rfl rfl rfl rfl rfl (fun h => absurd h (Nat.not_lt_zero _)) rfl src_d g30 rfl rfl ?_
                  refine s_a tab_ok rfl ?_
                  refine tops_nil ?_
                  refine w_norm [2, 7, 10, 11] rfl rfl ?_
                  refine twp_region ?_
                  refine s_a tab_ok rfl ?_
                  obtain ⟨g31, hm⟩ := guard_inv hm
                  refine s_x rfl rfl (x_ar rfl rfl rfl rfl g31) ?_
                  refine s_a tab_ok rfl ?_
                  refine tops_nil ?_
                  refine way_block ?_
                  refine way_then ?_
                  exact ⟨_, [0, 1, 2, 3], (Option.some.inj hm).symm, rfl, k0, rfl⟩
                · replace hm := iteB_F h28 hm
                  refine twp_exit ?_
                  refine way_thenExit ?_
                  obtain ⟨v32, hm, hz⟩ := inr_inv hm
                  rw [hz23 _ hz] at hm
                  refine way_thenExit ?_
                  refine way_here ?_
                  refine way_then ?_
                  exact ⟨_, [0, 1, 2, 3], (Option.some.inj hm).symm, rfl, k0, rfl⟩
            · obtain ⟨x15, b16⟩ := j
              refine w_norm [2, 7, 10, 11] rfl rfl ?_
              refine twp_rseq ?_
              iterate 2 (refine s_a tab_ok rfl ?_)
              refine s_x rfl rfl (x_lit [.tmp 81] tab_ok rfl rfl zero31 rfl rfl rfl rfl rfl) ?_
              obtain ⟨g33, hm⟩ := guard_inv hm
              refine s_app (f := Possession.enc) ([p3] : List Possession) tab_ok rfl rfl zero31 rfl rfl rfl rfl rfl (fun h => absurd h (Nat.not_lt_zero _)) rfl src_d g33 rfl rfl ?_
              refine s_a tab_ok rfl ?_
              refine tops_nil ?_
              refine w_norm [2, 10, 11] rfl rfl ?_
              refine twp_rseq ?_
              iterate 3 (refine s_a tab_ok rfl ?_)
              obtain ⟨g34, hm⟩ := guard_inv hm
              refine s_x rfl rfl (x_cut tab_ok rfl rfl rfl rfl rfl g34) ?_
              obtain ⟨g35, hm⟩ := guard_inv hm
              refine s_app (f := Possession.enc) (sub p2 x15 (p2.length : Int)) tab_ok rfl rfl zero31 rfl rfl rfl rfl rfl (fun h => absurd h (Nat.not_lt_zero _)) rfl src_d g35 rfl rfl ?_
              refine s_a tab_ok rfl ?_
              refine tops_nil ?_
              refine w_norm [10] rfl rfl ?_
              refine twp_rseq ?_
              iterate 3 (refine s_a tab_ok rfl ?_)
              refine tops_nil ?_
              refine w_norm [8, 9] rfl rfl ?_
              refine twp_ret ?_
              obtain ⟨rfl, rfl⟩ := Prod.mk.inj (Option.some.inj hm)
              exact EndsT.two rfl (snap_map rfl) (.refl _) (.d _) (.refl _)

theorem law42_PossessionTakes_w {p0 : Table} {p1 : Inter} {p2 : (List Possession)} {p3 : Possession} {r : Bool} (hm : law42_PossessionTakes p0 p1 p2 p3 = some r) : Ret Try.prog 3 [] (fun _ => false) ([p0.enc, p1.enc, .sl 4 (p2.map Possession.enc), p3.enc].map .d) (.d (.bool (r))) [] := by
  refine ret_bodyS callB3 Try.func3 rfl Try.ntmps3 rfl rfl (fun wX gX => ?_)
  unfold law42_PossessionTakes at hm
  refine w_norm [0, 1, 2, 3] rfl rfl ?_
  refine twp_rseq ?_
  refine s_bx 0 rfl rfl rfl ?_
  refine s_bx 1 rfl rfl rfl ?_
  refine s_bx 2 rfl rfl rfl ?_
  refine s_a tab_ok rfl ?_
  refine tops_nil ?_
  refine w_norm [2, 4, 5, 7] rfl rfl ?_
  refine twp_seq ?_
  refine twp_rseq ?_
  iterate 3 (refine s_a tab_ok rfl ?_)
  obtain ⟨r1, hr1, hm⟩ := bind_inv hm
  refine s_x rfl rfl (rd_callRN rfl rfl (snaps_cons (.d _) (snaps_cons (.d _) (snaps_cons (.d _) snaps_nil))) (law42_small_c hr1)) ?_
  refine s_a tab_ok rfl ?_
  refine tops_nil ?_
  refine w_norm [2, 4, 5, 7, 17] rfl rfl ?_
  refine twp_cond _ rfl (fun h2 => ?_) (fun h2 => ?_)
  · replace hm := iteB_T h2 hm
    refine twp_rseq ?_
    obtain ⟨r3, hr3, hm⟩ := bind_inv hm
    refine s_x rfl rfl (rd_callRN rfl rfl snaps_nil (law42_alive_c hr3)) ?_
    refine s_a tab_ok rfl ?_
    refine tops_nil ?_
    refine w_norm [8] rfl rfl ?_
    refine twp_ret ?_
    refine way_thenRet ?_
    obtain rfl := Option.some.inj hm
    exact EndsS.one _ rfl (.d _) (.refl _)
  · replace hm := iteB_F h2 hm
    refine twp_skip ?_
    refine way_then ?_
    refine w_norm [2, 4, 5, 7] rfl rfl ?_
    refine twp_rseq ?_
    iterate 4 (refine s_a tab_ok rfl ?_)
    obtain ⟨r4, hr4, hm⟩ := bind_inv hm
    obtain ⟨r5, r6⟩ := r4
    refine s_x rfl rfl (x_callT rfl rfl rfl (possession_Take_c hr4)) ?_
    iterate 5 (refine s_a tab_ok rfl ?_)
    refine tops_nil ?_
    refine w_norm [2, 4, 5, 7, 9, 10] rfl rfl ?_
    refine twp_rseq ?_
    iterate 4 (refine s_a tab_ok rfl ?_)
    obtain ⟨r7, hr7, hm⟩ := bind_inv hm
    obtain ⟨r8, r9⟩ := r7
    refine s_x rfl rfl (x_callT rfl rfl rfl (ref42_Take_c hr7)) ?_
    iterate 5 (refine s_a tab_ok rfl ?_)
    refine tops_nil ?_
    refine w_norm [9, 10, 11, 12] rfl rfl ?_
    refine w_joinM hm (fun x10 => ([(8, .d (.bool (x10)))] : Fr)) (fun x10 => ([] : List (Nat × Blk))) [8] [] rfl (fun z11 hm => ?_) (fun x10 hm => ?_)
    · refine twp_region ?_
      iterate 2 (refine s_a tab_ok rfl ?_)
      obtain ⟨r12, hr12, hm⟩ := bind_inv hm
      refine s_x rfl rfl (rd_callRN rfl rfl (snaps_cons (.d _) (snaps_cons (.d _) snaps_nil)) (ref42_Same_c hr12)) ?_
      refine s_b tab_ok rfl (fun q13 hq13 => ?_)
      cases q13
      · replace hm := iteB_F hq13 hm
        iterate 8 (refine s_a tab_ok rfl ?_)
        refine tops_nil ?_
        refine way_then ?_
        exact ⟨_, [0, 1, 2], (Option.some.inj hm).symm, rfl, k0, rfl⟩
      · replace hm := iteB_T hq13 hm
        iterate 4 (refine s_a tab_ok rfl ?_)
        refine s_b tab_ok rfl (fun q14 hq14 => ?_)
        cases q14
        · replace hm := ite_F hq14 hm
          iterate 3 (refine s_a tab_ok rfl ?_)
          refine tops_nil ?_
          refine way_then ?_
          exact ⟨_, [0, 1, 2], (Option.some.inj hm).symm, rfl, k0, rfl⟩
        · replace hm := ite_T hq14 hm
          obtain ⟨r15, hr15, hm⟩ := bind_inv hm
          refine s_x rfl rfl (rd_callRN rfl rfl snaps_nil (law42_alive_c hr15)) ?_
          iterate 2 (refine s_a tab_ok rfl ?_)
          refine tops_nil ?_
          refine way_then ?_
          exact ⟨_, [0, 1, 2], (Option.some.inj hm).symm, rfl, k0, rfl⟩
    · refine w_norm [8] rfl rfl ?_
      refine twp_ret ?_
      obtain rfl := Option.some.inj hm
      exact EndsS.one _ rfl (.d _) (.refl _)

theorem ref42_Give_c {p0 : (List Possession)} {p1 : Int} {p2 : ByteArray} {r0 : (List Possession)} {r1 : Int} (hm : ref42_Give p0 p1 p2 = some (r0, r1)) : RetT Try.prog 15 [.sl 4 (p0.map Possession.enc), .int .i64 p1, .str p2] [.sl 4 (r0.map Possession.enc), .int .i64 r1] := by
  refine .of (mv := fun _ => false) (ret_bodyT callB15 Try.func15 rfl Try.ntmps15 rfl rfl (fun wX gX => ?_))
  unfold ref42_Give at hm
  refine w_norm [0, 1, 2] rfl rfl ?_
  refine twp_rseq ?_
  iterate 2 (refine s_a tab_ok rfl ?_)
  refine tops_nil ?_
  refine w_norm [0, 1, 2] rfl rfl ?_
  refine twp_rseq ?_
  iterate 2 (refine s_a tab_ok rfl ?_)
  obtain ⟨r1, hr1, hm⟩ := bind_inv hm
  refine s_x rfl rfl (rd_callRN rfl rfl (snaps_cons (.d _) (snaps_cons (.d _) snaps_nil)) (ref42_find_c hr1)) ?_
  refine s_a tab_ok rfl ?_
  refine tops_nil ?_
  refine w_norm [0, 2, 8] rfl rfl ?_
  refine twp_seq ?_
  refine twp_rseq ?_
  iterate 2 (refine s_a tab_ok rfl ?_)
  refine tops_nil ?_
  refine w_norm [0, 2, 8, 14] rfl rfl ?_
  refine twp_cond _ rfl (fun h2 => ?_) (fun h2 => ?_)
  · replace hm := ite_T h2 hm
    refine twp_rseq ?_
    iterate 2 (refine s_a tab_ok rfl ?_)
    refine tops_nil ?_
    refine c_wk 6 [some 4] rfl ?_
    refine w_norm [6, 7] rfl rfl ?_
    refine twp_ret ?_
    refine way_thenRet ?_
    obtain ⟨rfl, rfl⟩ := Prod.mk.inj (Option.some.inj hm)
    exact EndsT.two rfl (.d _) (.refl _) (.d _) (.refl _)
  · replace hm := ite_F h2 hm
    refine twp_skip ?_
    refine way_then ?_
    refine w_norm [0, 2, 8] rfl rfl ?_
    refine twp_seq ?_
    refine w_joinM hm (fun x3 => ([(30, .d (.bool (x3)))] : Fr)) (fun x3 => ([] : List (Nat × Blk))) [30] [0, 8] rfl (fun z4 hm => ?_) (fun x3 hm => ?_)
    · refine twp_region ?_
      iterate 3 (refine s_a tab_ok rfl ?_)
      obtain ⟨e5, he5, hm⟩ := get_inv hm
      refine s_x rfl rfl (x_ix tab_ok rfl rfl rfl rfl he5) ?_
      iterate 3 (refine s_a tab_ok rfl ?_)
      refine s_b tab_ok rfl (fun q6 hq6 => ?_)
      cases q6
      · replace hm := iteN_F hq6 hm
        iterate 8 (refine s_a tab_ok rfl ?_)
        refine tops_nil ?_
        refine way_then ?_
        exact ⟨_, [], (Option.some.inj hm).symm, rfl, k0, rfl⟩
      · replace hm := iteN_T hq6 hm
        iterate 3 (refine s_a tab_ok rfl ?_)
        obtain ⟨e7, he7, hm⟩ := get_inv hm
        refine s_x rfl rfl (x_ix tab_ok rfl rfl rfl rfl he7) ?_
        iterate 4 (refine s_a tab_ok rfl ?_)
        refine tops_nil ?_
        refine way_then ?_
        exact ⟨_, [], (Option.some.inj hm).symm, rfl, k0, rfl⟩
    · refine w_norm [0, 8, 30] rfl rfl ?_
      refine twp_cond _ rfl (fun h8 => ?_) (fun h8 => ?_)
      · replace hm := iteB_T h8 hm
        refine twp_rseq ?_
        iterate 2 (refine s_a tab_ok rfl ?_)
        refine tops_nil ?_
        refine c_wk 6 [some 4] rfl ?_
        refine w_norm [6, 7] rfl rfl ?_
        refine twp_ret ?_
        refine way_thenRet ?_
        obtain ⟨rfl, rfl⟩ := Prod.mk.inj (Option.some.inj hm)
        exact EndsT.two rfl (.d _) (.refl _) (.d _) (.refl _)
      · replace hm := iteB_F h8 hm
        refine twp_skip ?_
        refine way_then ?_
        refine w_norm [0, 8] rfl rfl ?_
        refine twp_rseq ?_
        refine s_nilO (f := Possession.enc) 0 31 4 rfl rfl rfl ?_
        refine tops_nil ?_
        refine w_norm [0, 8, 9] rfl rfl ?_
        refine twp_rseq ?_
        iterate 3 (refine s_a tab_ok rfl ?_)
        obtain ⟨g9, hm⟩ := guard_inv hm
        refine s_x rfl rfl (x_cut tab_ok rfl rfl rfl rfl rfl g9) ?_
        obtain ⟨g10, hm⟩ := guard_inv hm
        refine s_app (f := Possession.enc) (sub p0 (0 : Int) r1) tab_ok rfl rfl zero31 rfl rfl rfl rfl rfl (fun h => absurd h (Nat.not_lt_zero _)) rfl src_d g10 rfl rfl ?_
        refine s_a tab_ok rfl ?_
        refine tops_nil ?_
        refine w_norm [0, 8, 9] rfl rfl ?_
        refine twp_rseq ?_
        iterate 3 (refine s_a tab_ok rfl ?_)
        obtain ⟨g11, hm⟩ := guard_inv hm
        refine s_x rfl rfl (x_ar rfl rfl rfl rfl g11) ?_
        obtain ⟨g12, hm⟩ := guard_inv hm
        refine s_x rfl rfl (x_cut tab_ok rfl rfl rfl rfl rfl g12) ?_
        obtain ⟨g13, hm⟩ := guard_inv hm
        refine s_app (f := Possession.enc) (sub p0 (r1 + (1 : Int)) (p0.length : Int)) tab_ok rfl rfl zero31 rfl rfl rfl rfl rfl (fun h => absurd h (Nat.not_lt_zero _)) rfl src_d g13 rfl rfl ?_
        refine s_a tab_ok rfl ?_
        refine tops_nil ?_
        refine w_norm [9] rfl rfl ?_
        refine twp_rseq ?_
        iterate 3 (refine s_a tab_ok rfl ?_)
        refine tops_nil ?_
        refine w_norm [6, 7] rfl rfl ?_
        refine twp_ret ?_
        obtain ⟨rfl, rfl⟩ := Prod.mk.inj (Option.some.inj hm)
        exact EndsT.two rfl (snap_map rfl) (.refl _) (.d _) (.refl _)

theorem ref42_Closed_c {p0 : (List Possession)} {p1 : Int} {r : (List Bool)} (hm : ref42_Closed p0 p1 = some r) : RetD Try.prog 18 [.sl 4 (p0.map Possession.enc), .int .i64 p1] (.sl 1 (r.map D.bool)) := by
  refine .of (mv := fun _ => false) (ret_bodyS callB18 Try.func18 rfl Try.ntmps18 rfl rfl (fun wX gX => ?_))
  unfold ref42_Closed at hm
  refine w_norm [0, 1] rfl rfl ?_
  refine twp_rseq ?_
  refine s_a tab_ok rfl ?_
  refine tops_nil ?_
  refine w_norm [0, 1] rfl rfl ?_
  refine twp_seq ?_
  refine w_cut [(12, .d (.bool (((decide (p1 < (0 : Int))) || (decide ((24 : Int) < p1))))))] [12] [0, 1] rfl ?_ ?_
  · refine twp_region ?_
    iterate 2 (refine s_a tab_ok rfl ?_)
    refine s_b tab_ok rfl (fun q1 hq1 => ?_)
    cases q1
    · iterate 3 (refine s_a tab_ok rfl ?_)
      refine tops_nil ?_
      refine way_then ?_
      exact ⟨[], rfl, k0, st_eq (fr_cons (av_bool (by simp [hq1])) rfl) rfl⟩
    · iterate 3 (refine s_a tab_ok rfl ?_)
      refine tops_nil ?_
      refine way_then ?_
      exact ⟨[], rfl, k0, st_eq (fr_cons (av_bool (by simp [hq1])) rfl) rfl⟩
  · refine w_norm [0, 1, 12] rfl rfl ?_
    refine twp_cond _ rfl (fun h2 => ?_) (fun h2 => ?_)
    · replace hm := iteB_T h2 hm
      refine twp_rseq ?_
      refine s_a tab_ok rfl ?_
      refine tops_nil ?_
      refine c_wk 4 [some 1] rfl ?_
      refine w_norm [4] rfl rfl ?_
      refine twp_ret ?_
      refine way_thenRet ?_
      obtain rfl := Option.some.inj hm
      exact EndsS.one _ rfl (.d _) (.refl _)
    · replace hm := iteB_F h2 hm
      refine twp_skip ?_
      refine way_then ?_
      refine w_norm [0, 1] rfl rfl ?_
      refine twp_rseq ?_
      refine s_a tab_ok rfl ?_
      obtain ⟨g3, hm⟩ := guard_inv hm
      refine s_mkO (f := D.bool) (x := false) 0 tab_ok rfl rfl rfl zero4 rfl rfl rfl rfl rfl g3 rfl ?_
      refine s_a tab_ok rfl ?_
      refine tops_nil ?_
      refine w_norm [0, 1, 5] rfl rfl ?_
      refine w_joinM hm (fun b4 => ([(5, .msl 0 1 0 b4.length)] : Fr)) (fun b4 => ([(0, .flat 4 1 (b4.map D.bool))] : List (Nat × Blk))) [5] [] rfl (fun z5 hm => ?_) (fun b4 hm => ?_)
      · refine twp_rseq ?_
        refine s_a tab_ok rfl ?_
        refine tops_nil ?_
        refine w_norm [0, 1, 5, 6] rfl rfl ?_
        refine twp_block ?_
        refine w_loop hm (fun (i9, b10) => ([(5, .msl 0 1 0 b10.length), (6, .d (.int .i64 i9))] : Fr)) (fun (i9, b10) => ([(0, .flat 4 1 (b10.map D.bool))] : List (Nat × Blk))) [5, 6] [0, 1] [0] rfl k0 rfl rfl rfl rfl rfl (fun s z11 hm hz11 => ?_)
        obtain ⟨i9, b10⟩ := s
        refine w_norm [0, 1, 5, 6] rfl rfl ?_
        refine twp_seq ?_
        refine twp_rseq ?_
        iterate 3 (refine s_a tab_ok rfl ?_)
        refine tops_nil ?_
        refine w_norm [0, 1, 5, 6, 17] rfl rfl ?_
        refine twp_cond _ rfl (fun h12 => ?_) (fun h12 => ?_)
        · replace hm := ite_T h12 hm
          refine twp_skip ?_
          refine way_then ?_
          refine w_norm [0, 1, 5, 6] rfl rfl ?_
          refine twp_seq ?_
          refine twp_block ?_
          refine twp_region ?_
          iterate 4 (refine s_a tab_ok rfl ?_)
          obtain ⟨r13, hr13, hm⟩ := bind_inv hm
          refine s_x rfl rfl (rd_callRN rfl rfl (snaps_cons (.d _) (snaps_cons (.d _) snaps_nil)) (ref42_find_c hr13)) ?_
          refine s_a tab_ok rfl ?_
          obtain ⟨e14, he14, hm⟩ := get_inv hm
          refine s_x rfl rfl (x_ixo tab_ok rfl rfl rfl rfl he14 rfl) ?_
          refine s_sto (x' := decide ((0 : Int) ≤ r13)) tab_ok rfl rfl rfl rfl rfl he14.2 rfl rfl rfl ?_
          refine s_lno 5 (b10.set i9.toNat (decide ((0 : Int) ≤ r13))).length rfl List.length_set.symm ?_
          refine s_lno 20 (b10.set i9.toNat (decide ((0 : Int) ≤ r13))).length rfl List.length_set.symm ?_
          refine tops_nil ?_
          refine way_block ?_
          refine way_then ?_
          refine w_norm [0, 1, 5, 6] rfl rfl ?_
          refine twp_region ?_
          refine s_a tab_ok rfl ?_
          obtain ⟨g15, hm⟩ := guard_inv hm
          refine s_x rfl rfl (x_ar rfl rfl rfl rfl g15) ?_
          refine s_a tab_ok rfl ?_
          refine tops_nil ?_
          refine way_then ?_
          exact ⟨_, [0], (Option.some.inj hm).symm, rfl, k0, rfl⟩
        · replace hm := ite_F h12 hm
          refine twp_exit ?_
          refine way_thenExit ?_
          obtain ⟨v16, hm, hz⟩ := inr_inv hm
          rw [hz11 _ hz] at hm
          refine way_thenExit ?_
          refine way_here ?_
          refine way_then ?_
          exact ⟨_, [0], (Option.some.inj hm).symm, rfl, k0, rfl⟩
      · refine w_norm [5] rfl rfl ?_
        refine twp_rseq ?_
        iterate 2 (refine s_a tab_ok rfl ?_)
        refine tops_nil ?_
        refine w_norm [4] rfl rfl ?_
        refine twp_ret ?_
        obtain rfl := Option.some.inj hm
        exact EndsS.one _ rfl (snap_map rfl) (.refl _)

theorem law42_PossessionGives_w {p0 : (List Possession)} {p1 : Int} {p2 : ByteArray} {p3 : Int} {r : Bool} (hm : law42_PossessionGives p0 p1 p2 p3 = some r) : Ret Try.prog 4 [] (fun _ => false) ([.sl 4 (p0.map Possession.enc), .int .i64 p1, .str p2, .int .i64 p3].map .d) (.d (.bool (r))) [] := by
  refine ret_bodyS callB4 Try.func4 rfl Try.ntmps4 rfl rfl (fun wX gX => ?_)
  unfold law42_PossessionGives at hm
  refine w_norm [0, 1, 2, 3] rfl rfl ?_
  refine twp_rseq ?_
  refine s_a tab_ok rfl ?_
  refine tops_nil ?_
  refine w_norm [0, 1, 2, 3] rfl rfl ?_
  refine twp_seq ?_
  refine twp_rseq ?_
  refine s_a tab_ok rfl ?_
  refine s_x rfl rfl (x_len tab_ok rfl rfl rfl) ?_
  refine s_a tab_ok rfl ?_
  refine tops_nil ?_
  refine w_norm [0, 1, 2, 3, 15] rfl rfl ?_
  refine twp_cond _ rfl (fun h1 => ?_) (fun h1 => ?_)
  · replace hm := ite_T h1 hm
    refine twp_rseq ?_
    obtain ⟨r2, hr2, hm⟩ := bind_inv hm
    refine s_x rfl rfl (rd_callRN rfl rfl snaps_nil (law42_alive_c hr2)) ?_
    refine s_a tab_ok rfl ?_
    refine tops_nil ?_
    refine w_norm [8] rfl rfl ?_
    refine twp_ret ?_
    refine way_thenRet ?_
    obtain rfl := Option.some.inj hm
    exact EndsS.one _ rfl (.d _) (.refl _)
  · replace hm := ite_F h1 hm
    refine twp_skip ?_
    refine way_then ?_
    refine w_norm [0, 1, 2, 3] rfl rfl ?_
    refine twp_rseq ?_
    iterate 3 (refine s_a tab_ok rfl ?_)
    obtain ⟨r3, hr3, hm⟩ := bind_inv hm
    obtain ⟨r4, r5⟩ := r3
    refine s_x rfl rfl (x_callT rfl rfl rfl (possession_Give_c hr3)) ?_
    iterate 5 (refine s_a tab_ok rfl ?_)
    refine tops_nil ?_
    refine w_norm [0, 1, 2, 3, 9, 10] rfl rfl ?_
    refine twp_rseq ?_
    iterate 3 (refine s_a tab_ok rfl ?_)
    obtain ⟨r6, hr6, hm⟩ := bind_inv hm
    obtain ⟨r7, r8⟩ := r6
    refine s_x rfl rfl (x_callT rfl rfl rfl (ref42_Give_c hr6)) ?_
    iterate 5 (refine s_a tab_ok rfl ?_)
    refine tops_nil ?_
    refine w_norm [0, 3, 9, 10, 11, 12] rfl rfl ?_
    refine w_joinM hm (fun x9 => ([(8, .d (.bool (x9)))] : Fr)) (fun x9 => ([] : List (Nat × Blk))) [8] [] rfl (fun z10 hm => ?_) (fun x9 hm => ?_)
    · refine twp_region ?_
      iterate 2 (refine s_a tab_ok rfl ?_)
      obtain ⟨r11, hr11, hm⟩ := bind_inv hm
      refine s_x rfl rfl (rd_callRN rfl rfl (snaps_cons (.d _) (snaps_cons (.d _) snaps_nil)) (ref42_Same_c hr11)) ?_
      refine s_b tab_ok rfl (fun q12 hq12 => ?_)
      cases q12
      · replace hm := iteB_F hq12 hm
        iterate 17 (refine s_a tab_ok rfl ?_)
        refine tops_nil ?_
        refine way_then ?_
        exact ⟨_, [], (Option.some.inj hm).symm, rfl, k0, rfl⟩
      · replace hm := iteB_T hq12 hm
        iterate 4 (refine s_a tab_ok rfl ?_)
        refine s_b tab_ok rfl (fun q13 hq13 => ?_)
        cases q13
        · replace hm := ite_F hq13 hm
          iterate 12 (refine s_a tab_ok rfl ?_)
          refine tops_nil ?_
          refine way_then ?_
          exact ⟨_, [], (Option.some.inj hm).symm, rfl, k0, rfl⟩
        · replace hm := ite_T hq13 hm
          iterate 2 (refine s_a tab_ok rfl ?_)
          obtain ⟨r14, hr14, hm⟩ := bind_inv hm
          refine s_x rfl rfl (rd_callRD rfl rfl rfl (possession_Closed_c hr14)) ?_
          iterate 2 (refine s_a tab_ok rfl ?_)
          obtain ⟨r15, hr15, hm⟩ := bind_inv hm
          refine s_x rfl rfl (rd_callRD rfl rfl rfl (ref42_Closed_c hr15)) ?_
          obtain ⟨r16, hr16, hm⟩ := bind_inv hm
          refine s_x rfl rfl (rd_callRN rfl rfl (snaps_cons (.d _) (snaps_cons (.d _) snaps_nil)) (ref42_SameBools_c hr16)) ?_
          refine s_a tab_ok rfl ?_
          refine s_b tab_ok rfl (fun q17 hq17 => ?_)
          cases q17
          · replace hm := iteB_F hq17 hm
            iterate 3 (refine s_a tab_ok rfl ?_)
            refine tops_nil ?_
            refine way_then ?_
            exact ⟨_, [], (Option.some.inj hm).symm, rfl, k0, rfl⟩
          · replace hm := iteB_T hq17 hm
            obtain ⟨r18, hr18, hm⟩ := bind_inv hm
            refine s_x rfl rfl (rd_callRN rfl rfl snaps_nil (law42_alive_c hr18)) ?_
            iterate 2 (refine s_a tab_ok rfl ?_)
            refine tops_nil ?_
            refine way_then ?_
            exact ⟨_, [], (Option.some.inj hm).symm, rfl, k0, rfl⟩
    · refine w_norm [8] rfl rfl ?_
      refine twp_ret ?_
      obtain rfl := Option.some.inj hm
      exact EndsS.one _ rfl (.d _) (.refl _)

theorem law42_PossessionRestores_w {p0 : Table} {p1 : Inter} {p2 : (List Possession)} {p3 : Possession} {p4 : ByteArray} {r : Bool} (hm : law42_PossessionRestores p0 p1 p2 p3 p4 = some r) : Ret Try.prog 6 [] (fun _ => false) ([p0.enc, p1.enc, .sl 4 (p2.map Possession.enc), p3.enc, .str p4].map .d) (.d (.bool (r))) [] := by
  refine ret_bodyS callB6 Try.func6 rfl Try.ntmps6 rfl rfl (fun wX gX => ?_)
  unfold law42_PossessionRestores at hm
  refine w_norm [0, 1, 2, 3, 4] rfl rfl ?_
  refine twp_rseq ?_
  refine s_bx 0 rfl rfl rfl ?_
  refine s_bx 1 rfl rfl rfl ?_
  refine s_bx 2 rfl rfl rfl ?_
  refine s_a tab_ok rfl ?_
  refine tops_nil ?_
  refine w_norm [2, 4, 5, 6, 8] rfl rfl ?_
  refine twp_seq ?_
  refine twp_rseq ?_
  iterate 3 (refine s_a tab_ok rfl ?_)
  obtain ⟨r1, hr1, hm⟩ := bind_inv hm
  refine s_x rfl rfl (rd_callRN rfl rfl (snaps_cons (.d _) (snaps_cons (.d _) (snaps_cons (.d _) snaps_nil))) (law42_small_c hr1)) ?_
  refine s_a tab_ok rfl ?_
  refine tops_nil ?_
  refine w_norm [2, 4, 5, 6, 8, 26] rfl rfl ?_
  refine twp_cond _ rfl (fun h2 => ?_) (fun h2 => ?_)
  · replace hm := iteB_T h2 hm
    refine twp_rseq ?_
    obtain ⟨r3, hr3, hm⟩ := bind_inv hm
    refine s_x rfl rfl (rd_callRN rfl rfl snaps_nil (law42_alive_c hr3)) ?_
    refine s_a tab_ok rfl ?_
    refine tops_nil ?_
    refine w_norm [10] rfl rfl ?_
    refine twp_ret ?_
    refine way_thenRet ?_
    obtain rfl := Option.some.inj hm
    exact EndsS.one _ rfl (.d _) (.refl _)
  · replace hm := iteB_F h2 hm
    refine twp_skip ?_
    refine way_then ?_
    refine w_norm [2, 4, 5, 6, 8] rfl rfl ?_
    refine twp_rseq ?_
    iterate 4 (refine s_a tab_ok rfl ?_)
    obtain ⟨r4, hr4, hm⟩ := bind_inv hm
    obtain ⟨r5, r6⟩ := r4
    refine s_x rfl rfl (x_callT rfl rfl rfl (possession_Take_c hr4)) ?_
    iterate 5 (refine s_a tab_ok rfl ?_)
    refine tops_nil ?_
    refine w_norm [2, 4, 5, 8, 11, 12] rfl rfl ?_
    refine twp_seq ?_
    refine twp_rseq ?_
    iterate 2 (refine s_a tab_ok rfl ?_)
    refine tops_nil ?_
    refine w_norm [2, 4, 5, 8, 11, 37] rfl rfl ?_
    refine twp_cond _ rfl (fun h7 => ?_) (fun h7 => ?_)
    · replace hm := iteN_T h7 hm
      refine w_joinM hm (fun x8 => ([(10, .d (.bool (x8)))] : Fr)) (fun x8 => ([] : List (Nat × Blk))) [10] [] rfl (fun z9 hm => ?_) (fun x8 hm => ?_)
      · refine twp_region ?_
        refine s_a tab_ok rfl ?_
        refine s_x rfl rfl (x_len tab_ok rfl rfl rfl) ?_
        refine s_a tab_ok rfl ?_
        refine s_b tab_ok rfl (fun q10 hq10 => ?_)
        cases q10
        · replace hm := ite_F hq10 hm
          iterate 3 (refine s_a tab_ok rfl ?_)
          refine tops_nil ?_
          refine way_then ?_
          exact ⟨_, [0, 1, 2], (Option.some.inj hm).symm, rfl, k0, rfl⟩
        · replace hm := ite_T hq10 hm
          obtain ⟨r11, hr11, hm⟩ := bind_inv hm
          refine s_x rfl rfl (rd_callRN rfl rfl snaps_nil (law42_alive_c hr11)) ?_
          iterate 2 (refine s_a tab_ok rfl ?_)
          refine tops_nil ?_
          refine way_then ?_
          exact ⟨_, [0, 1, 2], (Option.some.inj hm).symm, rfl, k0, rfl⟩
      · refine w_norm [10] rfl rfl ?_
        refine twp_ret ?_
        refine way_thenRet ?_
        obtain rfl := Option.some.inj hm
        exact EndsS.one _ rfl (.d _) (.refl _)
    · replace hm := iteN_F h7 hm
      refine twp_skip ?_
      refine way_then ?_
      refine w_norm [2, 4, 5, 8, 11] rfl rfl ?_
      refine twp_dseq follows  ?_
      iterate 3 (refine d_a [0, 1, 2] tab_ok rfl ?_)
      obtain ⟨r12, hr12, hm⟩ := bind_inv hm
      refine d_x [0, 1, 2] rfl rfl (rd_callRD rfl rfl rfl (possession_Closed_c hr12)) ?_
      iterate 3 (refine d_a [0, 1, 2] tab_ok rfl ?_)
      obtain ⟨r13, hr13, hm⟩ := bind_inv hm
      refine d_x [0, 1, 2] rfl rfl (rd_callRD rfl rfl rfl (possession_Closed_c hr13)) ?_
      refine d_tail ?_ (by kernel_rfl)
      iterate 2 (refine s_a tab_ok rfl ?_)
      refine tops_nil ?_
      refine w_norm [2, 4, 5, 8, 11, 13, 14] rfl rfl ?_
      refine twp_seq ?_
      refine w_cut [(63, .d (.bool (((!(decide ((r12.length : Int) = p0.sections))) || (!(decide ((r13.length : Int) = p0.sections)))))))] [63] [2, 4, 8, 11, 13, 14] rfl ?_ ?_
      · refine twp_region ?_
        refine s_a tab_ok rfl ?_
        refine s_x rfl rfl (x_len tab_ok rfl rfl rfl) ?_
        iterate 3 (refine s_a tab_ok rfl ?_)
        refine s_b tab_ok rfl (fun q14 hq14 => ?_)
        cases q14
        · refine s_a tab_ok rfl ?_
          refine s_x rfl rfl (x_len tab_ok rfl rfl rfl) ?_
          iterate 4 (refine s_a tab_ok rfl ?_)
          refine tops_nil ?_
          refine way_then ?_
          exact ⟨[0, 1, 2], rfl, k0, st_eq (fr_cons (av_bool (by simp [hq14])) rfl) rfl⟩
        · iterate 6 (refine s_a tab_ok rfl ?_)
          refine tops_nil ?_
          refine way_then ?_
          exact ⟨[0, 1, 2], rfl, k0, st_eq (fr_cons (av_bool (by simp [hq14])) rfl) rfl⟩
      · refine w_norm [2, 4, 8, 11, 13, 14, 63] rfl rfl ?_
        refine twp_cond _ rfl (fun h15 => ?_) (fun h15 => ?_)
        · replace hm := iteB_T h15 hm
          refine twp_rseq ?_
          refine s_a tab_ok rfl ?_
          refine tops_nil ?_
          refine w_norm [10] rfl rfl ?_
          refine twp_ret ?_
          refine way_thenRet ?_
          obtain rfl := Option.some.inj hm
          exact EndsS.one _ rfl (.d _) (.refl _)
        · replace hm := iteB_F h15 hm
          refine twp_skip ?_
          refine way_then ?_
          refine w_norm [2, 4, 8, 11, 13, 14] rfl rfl ?_
          refine w_joinS hm (fun _ => ([] : Fr)) (fun _ => ([] : List (Nat × Blk))) [] [2, 4, 8, 11] rfl (fun z16 hm hz16 => ?_) (fun j hm => ?_)
          · refine twp_rseq ?_
            refine s_a tab_ok rfl ?_
            refine s_x rfl rfl (x_len tab_ok rfl rfl rfl) ?_
            refine s_a tab_ok rfl ?_
            refine tops_nil ?_
            refine w_norm [2, 4, 8, 11, 13, 14, 65, 66] rfl rfl ?_
            refine twp_block ?_
            refine w_loop hm (fun x18 => ([(66, .d (.int .i64 x18))] : Fr)) (fun x18 => ([] : List (Nat × Blk))) [66] [2, 4, 8, 11, 13, 14, 65] [0, 1, 2] rfl k0 rfl rfl rfl rfl rfl (fun x18 z19 hm hz19 => ?_)
            refine w_norm [2, 4, 8, 11, 13, 14, 65, 66] rfl rfl ?_
            refine twp_rseq ?_
            refine s_a tab_ok rfl ?_
            refine tops_nil ?_
            refine w_norm [2, 4, 8, 11, 13, 14, 65, 66, 67] rfl rfl ?_
            refine twp_seq ?_
            refine twp_cond _ rfl (fun h20 => ?_) (fun h20 => ?_)
            · replace hm := ite_T h20 hm
              refine twp_skip ?_
              refine way_then ?_
              refine w_norm [2, 4, 8, 11, 13, 14, 65, 66] rfl rfl ?_
              refine twp_seq ?_
              refine twp_block ?_
              refine twp_rseq ?_
              iterate 2 (refine s_a tab_ok rfl ?_)
              refine tops_nil ?_
              refine w_norm [2, 4, 8, 11, 13, 14, 15, 65, 66] rfl rfl ?_
              refine w_joinM hm (fun x21 => ([(83, .d (.bool (x21)))] : Fr)) (fun x21 => ([] : List (Nat × Blk))) [83] [2, 4, 8, 11, 13, 14, 65, 66] rfl (fun z22 hm => ?_) (fun x21 hm => ?_)
              · refine twp_draw follows  ?_
                iterate 2 (refine d_a [0, 1, 2] tab_ok rfl ?_)
                obtain ⟨e23, he23, hm⟩ := get_inv hm
                refine d_x [0, 1, 2] rfl rfl (x_ix tab_ok rfl rfl rfl rfl he23) ?_
                iterate 3 (refine d_a [0, 1, 2] tab_ok rfl ?_)
                obtain ⟨e24, he24, hm⟩ := get_inv hm
                refine d_x [0, 1, 2] rfl rfl (x_ix tab_ok rfl rfl rfl rfl he24) ?_
                refine d_a [0, 1, 2] tab_ok rfl ?_
                refine d_b [0, 1, 2] tab_ok rfl (fun q25 hq25 => ?_)
                cases q25
                · replace hm := iteB_F hq25 hm
                  iterate 6 (refine d_a [0, 1, 2] tab_ok rfl ?_)
                  refine d_tail ?_ (by kernel_rfl)
                  refine tops_nil ?_
                  refine way_then ?_
                  exact ⟨_, [0, 1, 2], (Option.some.inj hm).symm, rfl, k0, rfl⟩
                · replace hm := iteB_T hq25 hm
                  iterate 6 (refine d_a [0, 1, 2] tab_ok rfl ?_)
                  refine d_tail ?_ (by kernel_rfl)
                  refine tops_nil ?_
                  refine way_then ?_
                  exact ⟨_, [0, 1, 2], (Option.some.inj hm).symm, rfl, k0, rfl⟩
              · refine w_norm [2, 4, 8, 11, 13, 14, 65, 66, 83] rfl rfl ?_
                refine twp_cond _ rfl (fun h26 => ?_) (fun h26 => ?_)
                · replace hm := iteB_T h26 hm
                  refine twp_rseq ?_
                  refine s_a tab_ok rfl ?_
                  refine tops_nil ?_
                  refine w_norm [10] rfl rfl ?_
                  refine twp_ret ?_
                  refine way_blockRet ?_
                  refine way_thenRet ?_
                  obtain ⟨v27, hm, hz⟩ := inr_inv hm
                  rw [hz19 _ hz] at hm
                  refine way_thenRet ?_
                  refine way_blockRet ?_
                  obtain ⟨v28, hm, hz⟩ := inr_inv hm
                  rw [hz16 _ hz] at hm
                  refine way_thenRet ?_
                  obtain rfl := Option.some.inj hm
                  exact EndsS.one _ rfl (.d _) (.refl _)
                · replace hm := iteB_F h26 hm
                  refine twp_skip ?_
                  refine way_block ?_
                  refine way_then ?_
                  refine w_norm [2, 4, 8, 11, 13, 14, 65, 66] rfl rfl ?_
                  refine twp_region ?_
                  obtain ⟨g29, hm⟩ := guard_inv hm
                  refine s_x rfl rfl (x_ar rfl rfl rfl rfl g29) ?_
                  refine s_a tab_ok rfl ?_
                  refine tops_nil ?_
                  refine way_then ?_
                  exact ⟨_, [0, 1, 2], (Option.some.inj hm).symm, rfl, k0, rfl⟩
            · replace hm := ite_F h20 hm
              refine twp_exit ?_
              refine way_thenExit ?_
              obtain ⟨v30, hm, hz⟩ := inr_inv hm
              rw [hz19 _ hz] at hm
              refine way_thenExit ?_
              refine way_here ?_
              refine way_then ?_
              exact ⟨_, [0, 1, 2], (Option.some.inj hm).symm, rfl, k0, rfl⟩
          · refine w_norm [2, 4, 8, 11] rfl rfl ?_
            refine twp_rseq ?_
            iterate 5 (refine s_a tab_ok rfl ?_)
            obtain ⟨r31, hr31, hm⟩ := bind_inv hm
            obtain ⟨r32, r33⟩ := r31
            refine s_x rfl rfl (x_callT rfl rfl rfl (possession_Give_c hr31)) ?_
            iterate 5 (refine s_a tab_ok rfl ?_)
            refine tops_nil ?_
            refine w_norm [2, 4, 8, 11, 16, 17] rfl rfl ?_
            refine twp_rseq ?_
            iterate 5 (refine s_a tab_ok rfl ?_)
            obtain ⟨r34, hr34, hm⟩ := bind_inv hm
            obtain ⟨r35, r36⟩ := r34
            refine s_x rfl rfl (x_callT rfl rfl rfl (possession_Give_c hr34)) ?_
            iterate 5 (refine s_a tab_ok rfl ?_)
            refine tops_nil ?_
            refine w_norm [2, 4, 8, 11, 16, 17, 18, 19] rfl rfl ?_
            refine twp_rseq ?_
            iterate 4 (refine s_a tab_ok rfl ?_)
            obtain ⟨r37, hr37, hm⟩ := bind_inv hm
            obtain ⟨r38, r39⟩ := r37
            refine s_x rfl rfl (x_callT rfl rfl rfl (possession_Give_c hr37)) ?_
            iterate 5 (refine s_a tab_ok rfl ?_)
            refine tops_nil ?_
            refine w_norm [2, 4, 8, 16, 17, 18, 19, 20, 21] rfl rfl ?_
            refine twp_seq ?_
            refine w_joinM hm (fun x40 => ([(128, .d (.bool (x40)))] : Fr)) (fun x40 => ([] : List (Nat × Blk))) [128] [4, 8, 20, 21] rfl (fun z41 hm => ?_) (fun x40 hm => ?_)
            · refine twp_region ?_
              iterate 2 (refine s_a tab_ok rfl ?_)
              refine s_b tab_ok rfl (fun q42 hq42 => ?_)
              cases q42
              · replace hm := iteN_F hq42 hm
                iterate 3 (refine s_a tab_ok rfl ?_)
                refine s_b tab_ok rfl (fun q43 hq43 => ?_)
                cases q43
                · replace hm := iteN_F hq43 hm
                  iterate 2 (refine s_a tab_ok rfl ?_)
                  obtain ⟨r44, hr44, hm⟩ := bind_inv hm
                  refine s_x rfl rfl (rd_callRN rfl rfl (snaps_cons (.d _) (snaps_cons (.d _) snaps_nil)) (ref42_Same_c hr44)) ?_
                  iterate 2 (refine s_a tab_ok rfl ?_)
                  refine s_b tab_ok rfl (fun q45 hq45 => ?_)
                  cases q45
                  · replace hm := iteB_F hq45 hm
                    iterate 2 (refine s_a tab_ok rfl ?_)
                    obtain ⟨r46, hr46, hm⟩ := bind_inv hm
                    refine s_x rfl rfl (rd_callRN rfl rfl (snaps_cons (.d _) (snaps_cons (.d _) snaps_nil)) (ref42_Same_c hr46)) ?_
                    iterate 2 (refine s_a tab_ok rfl ?_)
                    refine tops_nil ?_
                    refine way_then ?_
                    exact ⟨_, [0, 1, 2], (Option.some.inj hm).symm, rfl, k0, rfl⟩
                  · replace hm := iteB_T hq45 hm
                    iterate 5 (refine s_a tab_ok rfl ?_)
                    refine tops_nil ?_
                    refine way_then ?_
                    exact ⟨_, [0, 1, 2], (Option.some.inj hm).symm, rfl, k0, rfl⟩
                · replace hm := iteN_T hq43 hm
                  iterate 11 (refine s_a tab_ok rfl ?_)
                  refine tops_nil ?_
                  refine way_then ?_
                  exact ⟨_, [0, 1, 2], (Option.some.inj hm).symm, rfl, k0, rfl⟩
              · replace hm := iteN_T hq42 hm
                iterate 15 (refine s_a tab_ok rfl ?_)
                refine tops_nil ?_
                refine way_then ?_
                exact ⟨_, [0, 1, 2], (Option.some.inj hm).symm, rfl, k0, rfl⟩
            · refine w_norm [4, 8, 20, 21, 128] rfl rfl ?_
              refine twp_cond _ rfl (fun h47 => ?_) (fun h47 => ?_)
              · replace hm := iteB_T h47 hm
                refine twp_rseq ?_
                refine s_a tab_ok rfl ?_
                refine tops_nil ?_
                refine w_norm [10] rfl rfl ?_
                refine twp_ret ?_
                refine way_thenRet ?_
                obtain rfl := Option.some.inj hm
                exact EndsS.one _ rfl (.d _) (.refl _)
              · replace hm := iteB_F h47 hm
                refine twp_skip ?_
                refine way_then ?_
                refine w_norm [4, 8, 20, 21] rfl rfl ?_
                refine w_joinM hm (fun x48 => ([(10, .d (.bool (x48)))] : Fr)) (fun x48 => ([] : List (Nat × Blk))) [10] [] rfl (fun z49 hm => ?_) (fun x48 hm => ?_)
                · refine twp_region ?_
                  iterate 4 (refine s_a tab_ok rfl ?_)
                  refine s_b tab_ok rfl (fun q50 hq50 => ?_)
                  cases q50
                  · replace hm := ite_F hq50 hm
                    iterate 5 (refine s_a tab_ok rfl ?_)
                    refine s_b tab_ok rfl (fun q51 hq51 => ?_)
                    cases q51
                    · replace hm := ite_F hq51 hm
                      iterate 2 (refine s_a tab_ok rfl ?_)
                      refine s_b tab_ok rfl (fun q52 hq52 => ?_)
                      cases q52
                      · replace hm := ite_F hq52 hm
                        iterate 9 (refine s_a tab_ok rfl ?_)
                        refine tops_nil ?_
                        refine way_then ?_
                        exact ⟨_, [0, 1, 2], (Option.some.inj hm).symm, rfl, k0, rfl⟩
                      · replace hm := ite_T hq52 hm
                        refine s_a tab_ok rfl ?_
                        refine s_x rfl rfl (x_len tab_ok rfl rfl rfl) ?_
                        iterate 3 (refine s_a tab_ok rfl ?_)
                        refine s_b tab_ok rfl (fun q53 hq53 => ?_)
                        cases q53
                        · replace hm := ite_F hq53 hm
                          iterate 3 (refine s_a tab_ok rfl ?_)
                          refine tops_nil ?_
                          refine way_then ?_
                          exact ⟨_, [0, 1, 2], (Option.some.inj hm).symm, rfl, k0, rfl⟩
                        · replace hm := ite_T hq53 hm
                          obtain ⟨r54, hr54, hm⟩ := bind_inv hm
                          refine s_x rfl rfl (rd_callRN rfl rfl snaps_nil (law42_alive_c hr54)) ?_
                          iterate 2 (refine s_a tab_ok rfl ?_)
                          refine tops_nil ?_
                          refine way_then ?_
                          exact ⟨_, [0, 1, 2], (Option.some.inj hm).symm, rfl, k0, rfl⟩
                    · replace hm := ite_T hq51 hm
                      iterate 9 (refine s_a tab_ok rfl ?_)
                      obtain ⟨r55, hr55, hm⟩ := bind_inv hm
                      refine s_x rfl rfl (rd_callRN rfl rfl snaps_nil (law42_alive_c hr55)) ?_
                      iterate 2 (refine s_a tab_ok rfl ?_)
                      refine tops_nil ?_
                      refine way_then ?_
                      exact ⟨_, [0, 1, 2], (Option.some.inj hm).symm, rfl, k0, rfl⟩
                  · replace hm := ite_T hq50 hm
                    iterate 15 (refine s_a tab_ok rfl ?_)
                    obtain ⟨r56, hr56, hm⟩ := bind_inv hm
                    refine s_x rfl rfl (rd_callRN rfl rfl snaps_nil (law42_alive_c hr56)) ?_
                    iterate 2 (refine s_a tab_ok rfl ?_)
                    refine tops_nil ?_
                    refine way_then ?_
                    exact ⟨_, [0, 1, 2], (Option.some.inj hm).symm, rfl, k0, rfl⟩
                · refine w_norm [10] rfl rfl ?_
                  refine twp_ret ?_
                  obtain rfl := Option.some.inj hm
                  exact EndsS.one _ rfl (.d _) (.refl _)

theorem law42_ordered_c {p0 : (List Possession)} {r : Bool} (hm : law42_ordered p0 = some r) : RetN Try.prog 21 [.sl 4 (p0.map Possession.enc)] (.bool (r)) := by
  refine .unit (ret_bodyS callB21 Try.func21 rfl Try.ntmps21 rfl rfl (fun wX gX => ?_)) rfl
  unfold law42_ordered at hm
  refine w_norm [0] rfl rfl ?_
  refine twp_rseq ?_
  refine s_a tab_ok rfl ?_
  refine tops_nil ?_
  refine w_norm [0] rfl rfl ?_
  refine w_joinS hm (fun _ => ([] : Fr)) (fun _ => ([] : List (Nat × Blk))) [] [] rfl (fun z1 hm hz1 => ?_) (fun j hm => ?_)
  · refine twp_rseq ?_
    refine s_a tab_ok rfl ?_
    refine s_x rfl rfl (x_len tab_ok rfl rfl rfl) ?_
    refine s_a tab_ok rfl ?_
    refine tops_nil ?_
    refine w_norm [0, 5, 6] rfl rfl ?_
    refine twp_block ?_
    refine w_loop hm (fun x3 => ([(6, .d (.int .i64 x3))] : Fr)) (fun x3 => ([] : List (Nat × Blk))) [6] [0, 5] [] rfl k0 rfl rfl rfl rfl rfl (fun x3 z4 hm hz4 => ?_)
    refine w_norm [0, 5, 6] rfl rfl ?_
    refine twp_rseq ?_
    refine s_a tab_ok rfl ?_
    refine tops_nil ?_
    refine w_norm [0, 5, 6, 7] rfl rfl ?_
    refine twp_seq ?_
    refine twp_cond _ rfl (fun h5 => ?_) (fun h5 => ?_)
    · replace hm := ite_T h5 hm
      refine twp_skip ?_
      refine way_then ?_
      refine w_norm [0, 5, 6] rfl rfl ?_
      refine twp_seq ?_
      refine twp_block ?_
      refine twp_rseq ?_
      iterate 2 (refine s_a tab_ok rfl ?_)
      refine tops_nil ?_
      refine w_norm [0, 3, 5, 6] rfl rfl ?_
      refine w_joinM hm (fun x6 => ([(24, .d (.bool (x6)))] : Fr)) (fun x6 => ([] : List (Nat × Blk))) [24] [0, 5, 6] rfl (fun z7 hm => ?_) (fun x6 hm => ?_)
      · refine twp_draw follows  ?_
        iterate 2 (refine d_a [] tab_ok rfl ?_)
        refine d_b [] tab_ok rfl (fun q8 hq8 => ?_)
        cases q8
        · replace hm := ite_F hq8 hm
          iterate 13 (refine d_a [] tab_ok rfl ?_)
          refine d_tail ?_ (by kernel_rfl)
          refine tops_nil ?_
          refine way_then ?_
          exact ⟨_, [], (Option.some.inj hm).symm, rfl, k0, rfl⟩
        · replace hm := ite_T hq8 hm
          iterate 2 (refine d_a [] tab_ok rfl ?_)
          obtain ⟨g9, hm⟩ := guard_inv hm
          refine d_x [] rfl rfl (x_ar rfl rfl rfl rfl g9) ?_
          obtain ⟨e10, he10, hm⟩ := get_inv hm
          refine d_x [] rfl rfl (x_ix tab_ok rfl rfl rfl rfl he10) ?_
          iterate 4 (refine d_a [] tab_ok rfl ?_)
          obtain ⟨e11, he11, hm⟩ := get_inv hm
          refine d_x [] rfl rfl (x_ix tab_ok rfl rfl rfl rfl he11) ?_
          iterate 4 (refine d_a [] tab_ok rfl ?_)
          refine d_tail ?_ (by kernel_rfl)
          refine tops_nil ?_
          refine way_then ?_
          exact ⟨_, [], (Option.some.inj hm).symm, rfl, k0, rfl⟩
      · refine w_norm [0, 5, 6, 24] rfl rfl ?_
        refine twp_cond _ rfl (fun h12 => ?_) (fun h12 => ?_)
        · replace hm := iteB_T h12 hm
          refine twp_rseq ?_
          refine s_a tab_ok rfl ?_
          refine tops_nil ?_
          refine w_norm [2] rfl rfl ?_
          refine twp_ret ?_
          refine way_blockRet ?_
          refine way_thenRet ?_
          obtain ⟨v13, hm, hz⟩ := inr_inv hm
          rw [hz4 _ hz] at hm
          refine way_thenRet ?_
          refine way_blockRet ?_
          obtain ⟨v14, hm, hz⟩ := inr_inv hm
          rw [hz1 _ hz] at hm
          refine way_thenRet ?_
          obtain rfl := Option.some.inj hm
          exact EndsS.one _ rfl (.d _) (.refl _)
        · replace hm := iteB_F h12 hm
          refine twp_skip ?_
          refine way_block ?_
          refine way_then ?_
          refine w_norm [0, 5, 6] rfl rfl ?_
          refine twp_region ?_
          obtain ⟨g15, hm⟩ := guard_inv hm
          refine s_x rfl rfl (x_ar rfl rfl rfl rfl g15) ?_
          refine s_a tab_ok rfl ?_
          refine tops_nil ?_
          refine way_then ?_
          exact ⟨_, [], (Option.some.inj hm).symm, rfl, k0, rfl⟩
    · replace hm := ite_F h5 hm
      refine twp_exit ?_
      refine way_thenExit ?_
      obtain ⟨v16, hm, hz⟩ := inr_inv hm
      rw [hz4 _ hz] at hm
      refine way_thenExit ?_
      refine way_here ?_
      refine way_then ?_
      exact ⟨_, [], (Option.some.inj hm).symm, rfl, k0, rfl⟩
  · refine w_norm [] rfl rfl ?_
    refine twp_rseq ?_
    refine s_a tab_ok rfl ?_
    refine tops_nil ?_
    refine w_norm [2] rfl rfl ?_
    refine twp_ret ?_
    obtain rfl := Option.some.inj hm
    exact EndsS.one _ rfl (.d _) (.refl _)

end Go.Proofs.Ythkgkolgdkcngaa
