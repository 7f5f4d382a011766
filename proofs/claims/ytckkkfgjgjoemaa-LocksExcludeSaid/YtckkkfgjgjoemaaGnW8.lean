/- The functions return what their models yield. No condition. -/
import Derived.Test.YtckkkfgjgjoemaaGnU
import Derived.Test.YtckkkfgjgjoemaaGnM
import Derived.Test.YtckkkfgjgjoemaaGnW7
set_option maxHeartbeats 400000
set_option linter.unusedSimpArgs false
set_option linter.unusedVariables false
set_option maxRecDepth 20000
namespace Go.Proofs.Ytckkkfgjgjoemaa
open Go Go.TL

theorem law21_LocksFree_w {p0 : Table} {p1 : Inter} {p2 : Inputs} {p3 : Int} {r : Bool} (hm : law21_LocksFree p0 p1 p2 p3 = some r) : Ret Try.prog 5 [] (fun _ => false) ([p0.enc, p1.enc, p2.enc, .int .i64 p3].map .d) (.d (.bool (r))) [] := by
  refine ret_bodyS callB5 Try.func5 rfl Try.ntmps5 rfl rfl (fun wX gX => ?_)
  unfold law21_LocksFree at hm
  refine w_norm [0, 1, 2, 3] rfl rfl ?_
  refine twp_rseq ?_
  refine s_bx 0 rfl rfl rfl ?_
  refine s_bx 1 rfl rfl rfl ?_
  refine s_bx 2 rfl rfl rfl ?_
  refine s_a tab_ok rfl ?_
  refine tops_nil ?_
  refine w_norm [3, 4, 5, 6] rfl rfl ?_
  refine w_joinM hm (fun x1 => ([(8, .d (.bool (x1)))] : Fr)) (fun x1 => ([] : List (Nat × Blk))) [8] [] rfl (fun z2 hm => ?_) (fun x1 hm => ?_)
  · refine twp_draw follows  ?_
    iterate 2 (refine d_a [0, 1, 2] tab_ok rfl ?_)
    obtain ⟨r3, hr3, hm⟩ := bind_inv hm
    refine d_x [0, 1, 2] rfl rfl (rd_callRN rfl rfl (snaps_cons (.d _) (snaps_cons (.d _) snaps_nil)) (law21_Small_c hr3)) ?_
    refine d_a [0, 1, 2] tab_ok rfl ?_
    refine d_b [0, 1, 2] tab_ok rfl (fun q4 hq4 => ?_)
    cases q4
    · replace hm := iteB_F hq4 hm
      iterate 4 (refine d_a [0, 1, 2] tab_ok rfl ?_)
      obtain ⟨r5, hr5, hm⟩ := bind_inv hm
      refine d_x [0, 1, 2] rfl rfl (rd_callRN rfl rfl (snaps_cons (.d _) (snaps_cons (.d _) (snaps_cons (.d _) (snaps_cons (.d _) snaps_nil)))) (locks_Free_c hr5)) ?_
      iterate 4 (refine d_a [0, 1, 2] tab_ok rfl ?_)
      obtain ⟨r6, hr6, hm⟩ := bind_inv hm
      refine d_x [0, 1, 2] rfl rfl (rd_callRN rfl rfl (snaps_cons (.d _) (snaps_cons (.d _) (snaps_cons (.d _) (snaps_cons (.d _) snaps_nil)))) (ref21_Free_c hr6)) ?_
      refine d_a [0, 1, 2] tab_ok rfl ?_
      refine d_b [0, 1, 2] tab_ok rfl (fun q7 hq7 => ?_)
      cases q7
      · replace hm := ite_F hq7 hm
        iterate 3 (refine d_a [0, 1, 2] tab_ok rfl ?_)
        refine d_tail ?_ (by kernel_rfl)
        refine s_a tab_ok rfl ?_
        refine tops_nil ?_
        refine way_then ?_
        exact ⟨_, [0, 1, 2], (Option.some.inj hm).symm, rfl, k0, rfl⟩
      · replace hm := ite_T hq7 hm
        obtain ⟨r8, hr8, hm⟩ := bind_inv hm
        refine d_x [0, 1, 2] rfl rfl (rd_callRN rfl rfl snaps_nil (law21_alive_c hr8)) ?_
        iterate 2 (refine d_a [0, 1, 2] tab_ok rfl ?_)
        refine d_tail ?_ (by kernel_rfl)
        refine s_a tab_ok rfl ?_
        refine tops_nil ?_
        refine way_then ?_
        exact ⟨_, [0, 1, 2], (Option.some.inj hm).symm, rfl, k0, rfl⟩
    · replace hm := iteB_T hq4 hm
      iterate 15 (refine d_a [0, 1, 2] tab_ok rfl ?_)
      refine d_tail ?_ (by kernel_rfl)
      refine s_a tab_ok rfl ?_
      refine tops_nil ?_
      refine way_then ?_
      exact ⟨_, [0, 1, 2], (Option.some.inj hm).symm, rfl, k0, rfl⟩
  · refine w_norm [8] rfl rfl ?_
    refine twp_ret ?_
    obtain rfl := Option.some.inj hm
    exact EndsS.one _ rfl (.d _) (.refl _)

theorem ref21_Call_c {p0 : Table} {p1 : Inter} {p2 : Int} {r : Inter} (hm : ref21_Call p0 p1 p2 = some r) : RetD Try.prog 23 [p0.enc, p1.enc, .int .i64 p2] (r.enc) := by
  refine .of (mv := fun _ => false) (ret_bodyS callB23 Try.func23 rfl Try.ntmps23 rfl rfl (fun wX gX => ?_))
  unfold ref21_Call at hm
  refine w_norm [0, 1, 2] rfl rfl ?_
  refine twp_rseq ?_
  refine s_bx 0 rfl rfl rfl ?_
  refine s_bx 1 rfl rfl rfl ?_
  refine s_al 2 rfl rfl zero28 rfl ?_
  refine s_wkb 2 [some 3, some 1] rfl rfl ?_
  refine tops_nil ?_
  refine w_norm [2, 3, 4, 6] rfl rfl ?_
  refine twp_rseq ?_
  refine s_litO (f := RouteState.enc) 3 [] ([] : List RouteState) tab_ok rfl rfl rfl zero44 rfl rfl rfl rfl rfl ?_
  iterate 2 (refine s_a tab_ok rfl ?_)
  obtain ⟨g1, hm⟩ := guard_inv hm
  refine s_app (f := RouteState.enc) p1.routes tab_ok rfl rfl zero44 rfl rfl rfl rfl rfl (fun h => absurd h (Nat.not_lt_zero _)) rfl src_d g1 rfl rfl ?_
  refine s_a tab_ok rfl ?_
  refine tops_nil ?_
  refine w_norm [2, 3, 4, 6, 7] rfl rfl ?_
  refine twp_rseq ?_
  refine s_litO (f := (D.int .i64)) 4 [] ([] : List Int) tab_ok rfl rfl rfl zero3 rfl rfl rfl rfl rfl ?_
  iterate 2 (refine s_a tab_ok rfl ?_)
  obtain ⟨g2, hm⟩ := guard_inv hm
  refine s_app (f := (D.int .i64)) p1.lies tab_ok rfl rfl zero3 rfl rfl rfl rfl rfl (fun h => absurd h (Nat.not_lt_zero _)) rfl src_d g2 rfl rfl ?_
  refine s_a tab_ok rfl ?_
  refine tops_nil ?_
  refine w_norm [2, 3, 6, 7, 8] rfl rfl ?_
  refine twp_rseq ?_
  iterate 2 (refine s_a tab_ok rfl ?_)
  refine s_x rfl rfl (build_d rfl plc44 zero44 rfl rfl rfl rfl) ?_
  obtain ⟨e3, he3, hm⟩ := get_inv hm
  refine s_x rfl rfl (x_ixo tab_ok rfl rfl rfl rfl he3 rfl) ?_
  refine s_sto (x' := (⟨(1 : Int), (0 : Int), (0 : Int)⟩ : RouteState)) tab_ok rfl rfl rfl rfl rfl he3.2 rfl rfl rfl ?_
  refine s_lno 7 ((([] : List RouteState) ++ p1.routes).set p2.toNat (⟨(1 : Int), (0 : Int), (0 : Int)⟩ : RouteState)).length rfl List.length_set.symm ?_
  refine s_lno 19 ((([] : List RouteState) ++ p1.routes).set p2.toNat (⟨(1 : Int), (0 : Int), (0 : Int)⟩ : RouteState)).length rfl List.length_set.symm ?_
  refine tops_nil ?_
  refine w_norm [2, 3, 6, 7, 8] rfl rfl ?_
  refine twp_rseq ?_
  iterate 3 (refine s_a tab_ok rfl ?_)
  obtain ⟨e4, he4, hm⟩ := get_inv hm
  refine s_x rfl rfl (x_ix tab_ok rfl rfl rfl rfl he4) ?_
  refine s_a tab_ok rfl ?_
  obtain ⟨r5, hr5, hm⟩ := bind_inv hm
  refine s_x rfl rfl (rd_callRD rfl rfl rfl (ref16_Settings_c hr5)) ?_
  refine s_a tab_ok rfl ?_
  refine tops_nil ?_
  refine w_norm [3, 6, 7, 8, 9] rfl rfl ?_
  refine w_joinM hm (fun b6 => ([(8, .msl 4 1 0 b6.length)] : Fr)) (fun b6 => ([(4, .flat 3 1 (b6.map (D.int .i64)))] : List (Nat × Blk))) [8] [6, 7] rfl (fun z7 hm => ?_) (fun b6 hm => ?_)
  · refine twp_rseq ?_
    refine s_a tab_ok rfl ?_
    refine tops_nil ?_
    refine w_norm [3, 6, 7, 8, 9, 10] rfl rfl ?_
    refine twp_block ?_
    refine w_loop hm (fun (i11, b12) => ([(8, .msl 4 1 0 b12.length), (10, .d (.int .i64 i11))] : Fr)) (fun (i11, b12) => ([(4, .flat 3 1 (b12.map (D.int .i64)))] : List (Nat × Blk))) [8, 10] [3, 6, 7, 9] [0, 1, 2, 3, 4] rfl k0 rfl rfl rfl rfl rfl (fun s z13 hm hz13 => ?_)
    obtain ⟨i11, b12⟩ := s
    refine w_norm [3, 6, 7, 8, 9, 10] rfl rfl ?_
    refine twp_seq ?_
    refine twp_rseq ?_
    iterate 2 (refine s_a tab_ok rfl ?_)
    refine s_x rfl rfl (x_len tab_ok rfl rfl rfl) ?_
    refine s_a tab_ok rfl ?_
    refine tops_nil ?_
    refine w_norm [3, 6, 7, 8, 9, 10, 32] rfl rfl ?_
    refine twp_cond _ rfl (fun h14 => ?_) (fun h14 => ?_)
    · replace hm := ite_T h14 hm
      refine twp_skip ?_
      refine way_then ?_
      refine w_norm [3, 6, 7, 8, 9, 10] rfl rfl ?_
      refine twp_seq ?_
      refine twp_block ?_
      refine twp_draw follows  ?_
      iterate 4 (refine d_a [0, 1, 2, 3, 4] tab_ok rfl ?_)
      obtain ⟨e15, he15, hm⟩ := get_inv hm
      refine d_x [0, 1, 2, 3, 4] rfl rfl (x_ix tab_ok rfl rfl rfl rfl he15) ?_
      iterate 2 (refine d_a [0, 1, 2, 3, 4] tab_ok rfl ?_)
      obtain ⟨r16, hr16, hm⟩ := bind_inv hm
      refine d_x [0, 1, 2, 3, 4] rfl rfl (rd_callRN rfl rfl (snaps_cons (.d _) (snaps_cons (.d _) snaps_nil)) (ref16_Index_c hr16)) ?_
      iterate 2 (refine d_a [0, 1, 2, 3, 4] tab_ok rfl ?_)
      obtain ⟨e17, he17, hm⟩ := get_inv hm
      refine d_x [0, 1, 2, 3, 4] rfl rfl (x_ix tab_ok rfl rfl rfl rfl he17) ?_
      iterate 2 (refine d_a [0, 1, 2, 3, 4] tab_ok rfl ?_)
      obtain ⟨e18, he18, hm⟩ := get_inv hm
      refine d_x [0, 1, 2, 3, 4] rfl rfl (x_ixo tab_ok rfl rfl rfl rfl he18 rfl) ?_
      refine d_tail ?_ (by kernel_rfl)
      refine s_sto (x' := e17.pos) tab_ok rfl rfl rfl rfl rfl he18.2 rfl rfl rfl ?_
      refine s_lno 8 (b12.set r16.toNat e17.pos).length rfl List.length_set.symm ?_
      refine s_lno 35 (b12.set r16.toNat e17.pos).length rfl List.length_set.symm ?_
      refine tops_nil ?_
      refine way_block ?_
      refine way_then ?_
      refine w_norm [3, 6, 7, 8, 9, 10] rfl rfl ?_
      refine twp_region ?_
      refine s_a tab_ok rfl ?_
      obtain ⟨g19, hm⟩ := guard_inv hm
      refine s_x rfl rfl (x_ar rfl rfl rfl rfl g19) ?_
      refine s_a tab_ok rfl ?_
      refine tops_nil ?_
      refine way_then ?_
      exact ⟨_, [0, 1, 2, 3, 4], (Option.some.inj hm).symm, rfl, k0, rfl⟩
    · replace hm := ite_F h14 hm
      refine twp_exit ?_
      refine way_thenExit ?_
      obtain ⟨v20, hm, hz⟩ := inr_inv hm
      rw [hz13 _ hz] at hm
      refine way_thenExit ?_
      refine way_here ?_
      refine way_then ?_
      exact ⟨_, [0, 1, 2, 3, 4], (Option.some.inj hm).symm, rfl, k0, rfl⟩
  · refine w_norm [6, 7, 8] rfl rfl ?_
    refine twp_rseq ?_
    iterate 2 (refine s_a tab_ok rfl ?_)
    refine s_x rfl rfl (rd_build rfl plc28 zero28 rfl rfl rfl rfl) ?_
    refine s_a tab_ok rfl ?_
    refine tops_nil ?_
    refine w_norm [6] rfl rfl ?_
    refine twp_ret ?_
    obtain rfl := Option.some.inj hm
    exact EndsS.cellR _ tab_ok rfl rfl rfl rfl rfl (snap_agg (.cons (snap_map rfl) rfl (.cons (snap_map rfl) rfl .nil)))

theorem law21_LocksCall_w {p0 : Table} {p1 : Inter} {p2 : Inputs} {p3 : Int} {r : Bool} (hm : law21_LocksCall p0 p1 p2 p3 = some r) : Ret Try.prog 7 [] (fun _ => false) ([p0.enc, p1.enc, p2.enc, .int .i64 p3].map .d) (.d (.bool (r))) [] := by
  refine ret_bodyS callB7 Try.func7 rfl Try.ntmps7 rfl rfl (fun wX gX => ?_)
  unfold law21_LocksCall at hm
  refine w_norm [0, 1, 2, 3] rfl rfl ?_
  refine twp_rseq ?_
  refine s_bx 0 rfl rfl rfl ?_
  refine s_bx 1 rfl rfl rfl ?_
  refine s_bx 2 rfl rfl rfl ?_
  refine s_a tab_ok rfl ?_
  refine tops_nil ?_
  refine w_norm [3, 4, 5, 6] rfl rfl ?_
  refine twp_seq ?_
  refine w_joinM hm (fun x1 => ([(20, .d (.bool (x1)))] : Fr)) (fun x1 => ([] : List (Nat × Blk))) [20] [3, 4, 5] rfl (fun z2 hm => ?_) (fun x1 hm => ?_)
  · refine twp_region ?_
    iterate 2 (refine s_a tab_ok rfl ?_)
    obtain ⟨r3, hr3, hm⟩ := bind_inv hm
    refine s_x rfl rfl (rd_callRN rfl rfl (snaps_cons (.d _) (snaps_cons (.d _) snaps_nil)) (law21_Small_c hr3)) ?_
    refine s_a tab_ok rfl ?_
    refine s_b tab_ok rfl (fun q4 hq4 => ?_)
    cases q4
    · replace hm := iteB_F hq4 hm
      iterate 4 (refine s_a tab_ok rfl ?_)
      obtain ⟨r5, hr5, hm⟩ := bind_inv hm
      refine s_x rfl rfl (rd_callRN rfl rfl (snaps_cons (.d _) (snaps_cons (.d _) (snaps_cons (.d _) (snaps_cons (.d _) snaps_nil)))) (locks_Free_c hr5)) ?_
      iterate 2 (refine s_a tab_ok rfl ?_)
      refine tops_nil ?_
      refine way_then ?_
      exact ⟨_, [0, 1, 2], (Option.some.inj hm).symm, rfl, k0, rfl⟩
    · replace hm := iteB_T hq4 hm
      iterate 7 (refine s_a tab_ok rfl ?_)
      refine tops_nil ?_
      refine way_then ?_
      exact ⟨_, [0, 1, 2], (Option.some.inj hm).symm, rfl, k0, rfl⟩
  · refine w_norm [3, 4, 5, 20] rfl rfl ?_
    refine twp_cond _ rfl (fun h6 => ?_) (fun h6 => ?_)
    · replace hm := iteB_T h6 hm
      refine twp_rseq ?_
      obtain ⟨r7, hr7, hm⟩ := bind_inv hm
      refine s_x rfl rfl (rd_callRN rfl rfl snaps_nil (law21_alive_c hr7)) ?_
      refine s_a tab_ok rfl ?_
      refine tops_nil ?_
      refine w_norm [8] rfl rfl ?_
      refine twp_ret ?_
      refine way_thenRet ?_
      obtain rfl := Option.some.inj hm
      exact EndsS.one _ rfl (.d _) (.refl _)
    · replace hm := iteB_F h6 hm
      refine twp_skip ?_
      refine way_then ?_
      refine w_norm [3, 4, 5] rfl rfl ?_
      refine twp_seq ?_
      refine w_joinM hm (fun x8 => ([(36, .d (.bool (x8)))] : Fr)) (fun x8 => ([] : List (Nat × Blk))) [36] [3, 4, 5] rfl (fun z9 hm => ?_) (fun x8 hm => ?_)
      · refine twp_region ?_
        iterate 2 (refine s_a tab_ok rfl ?_)
        refine s_b tab_ok rfl (fun q10 hq10 => ?_)
        cases q10
        · replace hm := ite_F hq10 hm
          iterate 3 (refine s_a tab_ok rfl ?_)
          refine s_x rfl rfl (x_len tab_ok rfl rfl rfl) ?_
          iterate 2 (refine s_a tab_ok rfl ?_)
          refine s_b tab_ok rfl (fun q11 hq11 => ?_)
          cases q11
          · replace hm := ite_F hq11 hm
            iterate 2 (refine s_a tab_ok rfl ?_)
            obtain ⟨r12, hr12, hm⟩ := bind_inv hm
            refine s_x rfl rfl (rd_callRN rfl rfl (snaps_cons (.d _) (snaps_cons (.d _) snaps_nil)) (ref21_Sound_c hr12)) ?_
            iterate 2 (refine s_a tab_ok rfl ?_)
            refine tops_nil ?_
            refine way_then ?_
            exact ⟨_, [0, 1, 2], (Option.some.inj hm).symm, rfl, k0, rfl⟩
          · replace hm := ite_T hq11 hm
            iterate 5 (refine s_a tab_ok rfl ?_)
            refine tops_nil ?_
            refine way_then ?_
            exact ⟨_, [0, 1, 2], (Option.some.inj hm).symm, rfl, k0, rfl⟩
        · replace hm := ite_T hq10 hm
          iterate 12 (refine s_a tab_ok rfl ?_)
          refine tops_nil ?_
          refine way_then ?_
          exact ⟨_, [0, 1, 2], (Option.some.inj hm).symm, rfl, k0, rfl⟩
      · refine w_norm [3, 4, 5, 36] rfl rfl ?_
        refine twp_cond _ rfl (fun h13 => ?_) (fun h13 => ?_)
        · replace hm := iteB_T h13 hm
          refine twp_rseq ?_
          refine s_a tab_ok rfl ?_
          refine tops_nil ?_
          refine w_norm [8] rfl rfl ?_
          refine twp_ret ?_
          refine way_thenRet ?_
          obtain rfl := Option.some.inj hm
          exact EndsS.one _ rfl (.d _) (.refl _)
        · replace hm := iteB_F h13 hm
          refine twp_skip ?_
          refine way_then ?_
          refine w_norm [3, 4, 5] rfl rfl ?_
          refine w_joinM hm (fun x14 => ([(8, .d (.bool (x14)))] : Fr)) (fun x14 => ([] : List (Nat × Blk))) [8] [] rfl (fun z15 hm => ?_) (fun x14 hm => ?_)
          · refine twp_draw follows  ?_
            iterate 4 (refine d_a [0, 1, 2] tab_ok rfl ?_)
            obtain ⟨r16, hr16, hm⟩ := bind_inv hm
            refine d_x [0, 1, 2] rfl rfl (rd_callRD rfl rfl rfl (ref21_Call_c hr16)) ?_
            obtain ⟨r17, hr17, hm⟩ := bind_inv hm
            refine d_x [0, 1, 2] rfl rfl (rd_callRN rfl rfl (snaps_cons (.d _) (snaps_cons (.d _) snaps_nil)) (locks_Sound_c hr17)) ?_
            refine d_b [0, 1, 2] tab_ok rfl (fun q18 hq18 => ?_)
            cases q18
            · replace hm := iteB_F hq18 hm
              iterate 2 (refine d_a [0, 1, 2] tab_ok rfl ?_)
              refine d_tail ?_ (by kernel_rfl)
              refine s_a tab_ok rfl ?_
              refine tops_nil ?_
              refine way_then ?_
              exact ⟨_, [0, 1, 2], (Option.some.inj hm).symm, rfl, k0, rfl⟩
            · replace hm := iteB_T hq18 hm
              obtain ⟨r19, hr19, hm⟩ := bind_inv hm
              refine d_x [0, 1, 2] rfl rfl (rd_callRN rfl rfl snaps_nil (law21_alive_c hr19)) ?_
              refine d_a [0, 1, 2] tab_ok rfl ?_
              refine d_tail ?_ (by kernel_rfl)
              refine s_a tab_ok rfl ?_
              refine tops_nil ?_
              refine way_then ?_
              exact ⟨_, [0, 1, 2], (Option.some.inj hm).symm, rfl, k0, rfl⟩
          · refine w_norm [8] rfl rfl ?_
            refine twp_ret ?_
            obtain rfl := Option.some.inj hm
            exact EndsS.one _ rfl (.d _) (.refl _)

theorem law21_LocksExclude_w {p0 : Table} {p1 : Inter} {p2 : Int} {p3 : Int} {r : Bool} (hm : law21_LocksExclude p0 p1 p2 p3 = some r) : Ret Try.prog 8 [] (fun _ => false) ([p0.enc, p1.enc, .int .i64 p2, .int .i64 p3].map .d) (.d (.bool (r))) [] := by
  refine ret_bodyS callB8 Try.func8 rfl Try.ntmps8 rfl rfl (fun wX gX => ?_)
  unfold law21_LocksExclude at hm
  refine w_norm [0, 1, 2, 3] rfl rfl ?_
  refine twp_rseq ?_
  refine s_bx 0 rfl rfl rfl ?_
  refine s_bx 1 rfl rfl rfl ?_
  refine s_a tab_ok rfl ?_
  refine tops_nil ?_
  refine w_norm [2, 3, 4, 5] rfl rfl ?_
  refine twp_seq ?_
  refine w_joinM hm (fun x1 => ([(27, .d (.bool (x1)))] : Fr)) (fun x1 => ([] : List (Nat × Blk))) [27] [2, 3, 4, 5] rfl (fun z2 hm => ?_) (fun x1 hm => ?_)
  · refine twp_region ?_
    iterate 2 (refine s_a tab_ok rfl ?_)
    obtain ⟨r3, hr3, hm⟩ := bind_inv hm
    refine s_x rfl rfl (rd_callRN rfl rfl (snaps_cons (.d _) (snaps_cons (.d _) snaps_nil)) (law21_Small_c hr3)) ?_
    refine s_a tab_ok rfl ?_
    refine s_b tab_ok rfl (fun q4 hq4 => ?_)
    cases q4
    · replace hm := iteB_F hq4 hm
      iterate 2 (refine s_a tab_ok rfl ?_)
      obtain ⟨r5, hr5, hm⟩ := bind_inv hm
      refine s_x rfl rfl (rd_callRN rfl rfl (snaps_cons (.d _) (snaps_cons (.d _) snaps_nil)) (locks_Sound_c hr5)) ?_
      iterate 2 (refine s_a tab_ok rfl ?_)
      refine s_b tab_ok rfl (fun q6 hq6 => ?_)
      cases q6
      · replace hm := iteB_F hq6 hm
        iterate 4 (refine s_a tab_ok rfl ?_)
        refine tops_nil ?_
        refine way_then ?_
        exact ⟨_, [0, 1], (Option.some.inj hm).symm, rfl, k0, rfl⟩
      · replace hm := iteB_T hq6 hm
        iterate 4 (refine s_a tab_ok rfl ?_)
        refine tops_nil ?_
        refine way_then ?_
        exact ⟨_, [0, 1], (Option.some.inj hm).symm, rfl, k0, rfl⟩
    · replace hm := iteB_T hq4 hm
      iterate 10 (refine s_a tab_ok rfl ?_)
      refine tops_nil ?_
      refine way_then ?_
      exact ⟨_, [0, 1], (Option.some.inj hm).symm, rfl, k0, rfl⟩
  · refine w_norm [2, 3, 4, 5, 27] rfl rfl ?_
    refine twp_cond _ rfl (fun h7 => ?_) (fun h7 => ?_)
    · replace hm := iteB_T h7 hm
      refine twp_rseq ?_
      obtain ⟨r8, hr8, hm⟩ := bind_inv hm
      refine s_x rfl rfl (rd_callRN rfl rfl snaps_nil (law21_alive_c hr8)) ?_
      refine s_a tab_ok rfl ?_
      refine tops_nil ?_
      refine w_norm [8] rfl rfl ?_
      refine twp_ret ?_
      refine way_thenRet ?_
      obtain rfl := Option.some.inj hm
      exact EndsS.one _ rfl (.d _) (.refl _)
    · replace hm := iteB_F h7 hm
      refine twp_skip ?_
      refine way_then ?_
      refine w_norm [2, 3, 4, 5] rfl rfl ?_
      refine twp_dseq follows  ?_
      iterate 3 (refine d_a [0, 1] tab_ok rfl ?_)
      obtain ⟨r9, hr9, hm⟩ := bind_inv hm
      refine d_x [0, 1] rfl rfl (rd_callRD rfl rfl rfl (locks_Path_c hr9)) ?_
      iterate 3 (refine d_a [0, 1] tab_ok rfl ?_)
      obtain ⟨r10, hr10, hm⟩ := bind_inv hm
      refine d_x [0, 1] rfl rfl (rd_callRD rfl rfl rfl (locks_Path_c hr10)) ?_
      refine d_tail ?_ (by kernel_rfl)
      iterate 2 (refine s_a tab_ok rfl ?_)
      refine tops_nil ?_
      refine w_norm [9, 10] rfl rfl ?_
      refine w_joinS hm (fun _ => ([] : Fr)) (fun _ => ([] : List (Nat × Blk))) [] [] rfl (fun z11 hm hz11 => ?_) (fun j hm => ?_)
      · refine twp_rseq ?_
        refine s_a tab_ok rfl ?_
        refine s_x rfl rfl (x_len tab_ok rfl rfl rfl) ?_
        refine s_a tab_ok rfl ?_
        refine tops_nil ?_
        refine w_norm [9, 10, 38, 39] rfl rfl ?_
        refine twp_block ?_
        refine w_loop hm (fun x13 => ([(39, .d (.int .i64 x13))] : Fr)) (fun x13 => ([] : List (Nat × Blk))) [39] [9, 10, 38] [0, 1] rfl k0 rfl rfl rfl rfl rfl (fun x13 z14 hm hz14 => ?_)
        refine w_norm [9, 10, 38, 39] rfl rfl ?_
        refine twp_rseq ?_
        refine s_a tab_ok rfl ?_
        refine tops_nil ?_
        refine w_norm [9, 10, 38, 39, 40] rfl rfl ?_
        refine twp_seq ?_
        refine twp_cond _ rfl (fun h15 => ?_) (fun h15 => ?_)
        · replace hm := ite_T h15 hm
          refine twp_skip ?_
          refine way_then ?_
          refine w_norm [9, 10, 38, 39] rfl rfl ?_
          refine w_joinS hm (fun _ => ([] : Fr)) (fun _ => ([] : List (Nat × Blk))) [] [9, 10, 38, 39] rfl (fun z16 hm hz16 => ?_) (fun j hm => ?_)
          · refine twp_block ?_
            refine twp_rseq ?_
            iterate 2 (refine s_a tab_ok rfl ?_)
            refine tops_nil ?_
            refine w_norm [9, 10, 11, 38, 39] rfl rfl ?_
            refine twp_rseq ?_
            refine s_a tab_ok rfl ?_
            refine s_x rfl rfl (x_len tab_ok rfl rfl rfl) ?_
            refine s_a tab_ok rfl ?_
            refine tops_nil ?_
            refine w_norm [9, 10, 11, 38, 39, 43, 44] rfl rfl ?_
            refine twp_block ?_
            refine w_loop hm (fun x18 => ([(44, .d (.int .i64 x18))] : Fr)) (fun x18 => ([] : List (Nat × Blk))) [44] [9, 10, 11, 38, 39, 43] [0, 1] rfl k0 rfl rfl rfl rfl rfl (fun x18 z19 hm hz19 => ?_)
            refine w_norm [9, 10, 11, 38, 39, 43, 44] rfl rfl ?_
            refine twp_rseq ?_
            refine s_a tab_ok rfl ?_
            refine tops_nil ?_
            refine w_norm [9, 10, 11, 38, 39, 43, 44, 45] rfl rfl ?_
            refine twp_seq ?_
            refine twp_cond _ rfl (fun h20 => ?_) (fun h20 => ?_)
            · replace hm := ite_T h20 hm
              refine twp_skip ?_
              refine way_then ?_
              refine w_norm [9, 10, 11, 38, 39, 43, 44] rfl rfl ?_
              refine twp_seq ?_
              refine twp_block ?_
              refine twp_rseq ?_
              iterate 2 (refine s_a tab_ok rfl ?_)
              refine tops_nil ?_
              refine w_norm [9, 10, 11, 12, 38, 39, 43, 44] rfl rfl ?_
              refine twp_dseq follows  ?_
              iterate 2 (refine d_a [0, 1] tab_ok rfl ?_)
              obtain ⟨e21, he21, hm⟩ := get_inv hm
              refine d_x [0, 1] rfl rfl (x_ix tab_ok rfl rfl rfl rfl he21) ?_
              iterate 3 (refine d_a [0, 1] tab_ok rfl ?_)
              obtain ⟨e22, he22, hm⟩ := get_inv hm
              refine d_x [0, 1] rfl rfl (x_ix tab_ok rfl rfl rfl rfl he22) ?_
              iterate 2 (refine d_a [0, 1] tab_ok rfl ?_)
              refine d_tail ?_ (by kernel_rfl)
              refine tops_nil ?_
              refine w_norm [9, 10, 11, 38, 39, 43, 44, 55] rfl rfl ?_
              refine twp_cond _ rfl (fun h23 => ?_) (fun h23 => ?_)
              · replace hm := ite_T h23 hm
                refine twp_rseq ?_
                refine s_a tab_ok rfl ?_
                refine tops_nil ?_
                refine w_norm [8] rfl rfl ?_
                refine twp_ret ?_
                refine way_blockRet ?_
                refine way_thenRet ?_
                obtain ⟨v24, hm, hz⟩ := inr_inv hm
                rw [hz19 _ hz] at hm
                refine way_thenRet ?_
                refine way_blockRet ?_
                refine way_blockRet ?_
                obtain ⟨v25, hm, hz⟩ := inr_inv hm
                rw [hz16 _ hz] at hm
                refine way_thenRet ?_
                obtain ⟨v26, hm, hz⟩ := inr_inv hm
                rw [hz14 _ hz] at hm
                refine way_thenRet ?_
                refine way_blockRet ?_
                obtain ⟨v27, hm, hz⟩ := inr_inv hm
                rw [hz11 _ hz] at hm
                refine way_thenRet ?_
                obtain rfl := Option.some.inj hm
                exact EndsS.one _ rfl (.d _) (.refl _)
              · replace hm := ite_F h23 hm
                refine twp_skip ?_
                refine way_block ?_
                refine way_then ?_
                refine w_norm [9, 10, 11, 38, 39, 43, 44] rfl rfl ?_
                refine twp_region ?_
                obtain ⟨g28, hm⟩ := guard_inv hm
                refine s_x rfl rfl (x_ar rfl rfl rfl rfl g28) ?_
                refine s_a tab_ok rfl ?_
                refine tops_nil ?_
                refine way_then ?_
                exact ⟨_, [0, 1], (Option.some.inj hm).symm, rfl, k0, rfl⟩
            · replace hm := ite_F h20 hm
              refine twp_exit ?_
              refine way_thenExit ?_
              obtain ⟨v29, hm, hz⟩ := inr_inv hm
              rw [hz19 _ hz] at hm
              refine way_thenExit ?_
              refine way_here ?_
              refine way_block ?_
              refine way_then ?_
              exact ⟨_, [0, 1], (Option.some.inj hm).symm, rfl, k0, rfl⟩
          · refine w_norm [9, 10, 38, 39] rfl rfl ?_
            refine twp_region ?_
            obtain ⟨g30, hm⟩ := guard_inv hm
            refine s_x rfl rfl (x_ar rfl rfl rfl rfl g30) ?_
            refine s_a tab_ok rfl ?_
            refine tops_nil ?_
            refine way_then ?_
            exact ⟨_, [0, 1], (Option.some.inj hm).symm, rfl, k0, rfl⟩
        · replace hm := ite_F h15 hm
          refine twp_exit ?_
          refine way_thenExit ?_
          obtain ⟨v31, hm, hz⟩ := inr_inv hm
          rw [hz14 _ hz] at hm
          refine way_thenExit ?_
          refine way_here ?_
          refine way_then ?_
          exact ⟨_, [0, 1], (Option.some.inj hm).symm, rfl, k0, rfl⟩
      · refine w_norm [] rfl rfl ?_
        refine twp_rseq ?_
        obtain ⟨r32, hr32, hm⟩ := bind_inv hm
        refine s_x rfl rfl (rd_callRN rfl rfl snaps_nil (law21_alive_c hr32)) ?_
        refine s_a tab_ok rfl ?_
        refine tops_nil ?_
        refine w_norm [8] rfl rfl ?_
        refine twp_ret ?_
        obtain rfl := Option.some.inj hm
        exact EndsS.one _ rfl (.d _) (.refl _)

end Go.Proofs.Ytckkkfgjgjoemaa
