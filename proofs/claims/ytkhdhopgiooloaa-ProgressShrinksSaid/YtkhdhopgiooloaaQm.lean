/- Texts of this proof, joined, without what it does not use. No condition. -/
import Derived.Shelf.SlSortCmp.NoneTotal
import Derived.Test.YtkhdhopgiooloaaQl

set_option maxHeartbeats 400000
set_option linter.unusedSimpArgs false
set_option linter.unusedVariables false
set_option maxRecDepth 20000
namespace Go.Proofs.Ytkhdhopgiooloaa
open Go Go.TL Go.Sort Go.Shelf Go.RowKit Go.Lib

def sort71_ren : Go.Shelf.Ren := ⟨fun | 6 => 71 | 15 => 80 | 14 => 79 | 28 => 90 | 29 => 91 | 20 => 82 | 21 => 83 | 22 => 84 | 23 => 85 | 24 => 86 | 25 => 87 | 26 => 88 | 27 => 89 | 46 => 92 | 47 => 93 | 48 => 94 | 49 => 95 | 50 => 96 | 57 => 97 | n => n, fun | 22 => 40 | 24 => 43 | 25 => 88 | 3 => 3 | 39 => 96 | 0 => 0 | 53 => 106 | 55 => 108 | 4 => 4 | 46 => 99 | 45 => 98 | 50 => 103 | 5 => 5 | 9 => 9 | 66 => 109 | 70 => 113 | 76 => 115 | 77 => 116 | n => n, fun | n => n⟩
theorem sort71 : Go.Proofs.SlLaysF0.n6 Try.prog sort71_ren where
  mixed := by kernel_rfl
  f6 := ⟨Try.f71.name, by kernel_rfl, Try.func71.trans (congrArg some (by kernel_rfl))⟩
  f14 := ⟨Try.f79.name, by kernel_rfl, Try.func79.trans (congrArg some (by kernel_rfl))⟩
  f15 := Try.func80.trans (congrArg some (by kernel_rfl))
  f20 := ⟨Try.f82.name, by kernel_rfl, Try.func82.trans (congrArg some (by kernel_rfl))⟩
  f21 := ⟨Try.f83.name, by kernel_rfl, Try.func83.trans (congrArg some (by kernel_rfl))⟩
  f22 := ⟨Try.f84.name, by kernel_rfl, Try.func84.trans (congrArg some (by kernel_rfl))⟩
  f23 := ⟨Try.f85.name, by kernel_rfl, Try.func85.trans (congrArg some (by kernel_rfl))⟩
  f24 := ⟨Try.f86.name, by kernel_rfl, Try.func86.trans (congrArg some (by kernel_rfl))⟩
  f25 := ⟨Try.f87.name, by kernel_rfl, Try.func87.trans (congrArg some (by kernel_rfl))⟩
  f26 := ⟨Try.f88.name, by kernel_rfl, Try.func88.trans (congrArg some (by kernel_rfl))⟩
  f27 := ⟨Try.f89.name, by kernel_rfl, Try.func89.trans (congrArg some (by kernel_rfl))⟩
  f28 := Try.func90.trans (congrArg some (by kernel_rfl))
  f29 := Try.func91.trans (congrArg some (by kernel_rfl))
  f46 := ⟨Try.f92.name, by kernel_rfl, Try.func92.trans (congrArg some (by kernel_rfl))⟩
  f47 := Try.func93.trans (congrArg some (by kernel_rfl))
  f48 := Try.func94.trans (congrArg some (by kernel_rfl))
  f49 := ⟨Try.f95.name, by kernel_rfl, Try.func95.trans (congrArg some (by kernel_rfl))⟩
  f50 := ⟨Try.f96.name, by kernel_rfl, Try.func96.trans (congrArg some (by kernel_rfl))⟩
  f57 := ⟨Try.f97.name, by kernel_rfl, Try.func97.trans (congrArg some (by kernel_rfl))⟩
  t0 := Try.underlying0
  a0 := Try.isAgg0
  z0 := Try.sizeOf0
  v0 := Try.zeroValue0
  t3 := Try.underlying3
  a3 := Try.isAgg3
  z3 := Try.sizeOf3
  v3 := Try.zeroValue3
  t4 := Try.underlying4
  a4 := Try.isAgg4
  z4 := Try.sizeOf4
  v4 := Try.zeroValue4
  t5 := Try.underlying5
  a5 := Try.isAgg5
  z5 := Try.sizeOf5
  v5 := Try.zeroValue5
  t9 := Try.underlying9
  a9 := Try.isAgg9
  z9 := Try.sizeOf9
  v9 := Try.zeroValue9
  t22 := Try.underlying40
  a22 := Try.isAgg40
  z22 := Try.sizeOf40
  v22 := Try.zeroValue40
  t25 := Try.underlying88
  a25 := Try.isAgg88
  z25 := Try.sizeOf88
  v25 := Try.zeroValue88
  t39 := Try.underlying96
  a39 := Try.isAgg96
  z39 := Try.sizeOf96
  v39 := Try.zeroValue96
  t45 := Try.underlying98
  a45 := Try.isAgg98
  z45 := Try.sizeOf98
  v45 := Try.zeroValue98
  t46 := Try.underlying99
  a46 := Try.isAgg99
  z46 := Try.sizeOf99
  v46 := Try.zeroValue99
  t50 := Try.underlying103
  a50 := Try.isAgg103
  z50 := Try.sizeOf103
  v50 := Try.zeroValue103
  t53 := Try.underlying106
  a53 := Try.isAgg106
  z53 := Try.sizeOf106
  v53 := Try.zeroValue106
  t55 := Try.underlying108
  a55 := Try.isAgg108
  z55 := Try.sizeOf108
  v55 := Try.zeroValue108
  t66 := Try.underlying109
  a66 := Try.isAgg109
  z66 := Try.sizeOf109
  v66 := Try.zeroValue109
  t70 := Try.underlying113
  a70 := Try.isAgg113
  z70 := Try.sizeOf113
  v70 := Try.zeroValue113
  t76 := Try.underlying115
  a76 := Try.isAgg115
  z76 := Try.sizeOf115
  v76 := Try.zeroValue115
  t77 := Try.underlying116
  a77 := Try.isAgg116
  z77 := Try.sizeOf116
  v77 := Try.zeroValue116
theorem slices_SortFunc_Setting_c {G : FuncId} {c : D} {cs : List D} {m : Setting → Setting → Option Int} (hs : SortOk m) (hfn : fnOf c = some (G, cs)) (hclo : ∀ a b r, m a b = some r → RetD Try.prog G ([a.enc, b.enc] ++ cs) (.int .i64 r)) (xs : List Setting) (hlen : xs.length ≤ 1000000000) : Ret Try.prog 71 [.flat 43 2 (xs.map Setting.enc)] (fun _ => false) [.msl 0 2 0 xs.length, .d c] (.tup []) [.flat 43 2 ((sortM m xs).map Setting.enc)] := by
  have hcb : callB Try.prog G = true := by
    obtain ⟨r, hr⟩ := hs.tot default default
    obtain ⟨_, _, _, h, _⟩ := hclo _ _ _ hr
    exact h.1
  have hlt : ltOf (fun x y => (m x y).getD 0) = ltM m := rfl
  have hS := ret_sortK (P := Try.prog) (F := 71) (G := G) (sz := 2) (f := Setting.enc) (c := c) (cs := cs) (cf := fun x y => (m x y).getD 0) (S := fun d => d.toList.mergeSort fun x y => !(ltM m) y x) 43 (fun _ => false) xs callB71 (fun _ => rfl) (fun _ => rfl) (fun _ => rfl) hfn
    (fun x y => by obtain ⟨r, hr⟩ := hs.tot x y; rw [hr]; exact hclo x y r hr) (by omega) (by rw [List.length_mergeSort])
    (fun p cap fv w => AnyF.slices_SortFunc_none { sort71 with } p cap fv w)
    (fun blk off cap cb d w hcl hH hb hl => AnyQ.slices_SortFunc_total sort71 2 Try.isAgg43 Try.sizeOf43 (fun x => (Setting.enc x).cells.map D.val) (fun _ => rfl) (fun x v hv => by obtain ⟨c, hc, rfl⟩ := List.mem_map.1 hv; simp only [Setting.enc, D.cells, List.mem_cons, List.not_mem_nil, or_false] at hc; rcases hc with rfl | rfl <;> rfl) (fun x y => (m x y).getD 0)
      ⟨hs.irrefl, hs.trans, hs.ntrans⟩ G cb blk off cap d w (callB_enters hcb) hcl hH hb hl hs.anti)
  rwa [show (xs.toArray.toList.mergeSort fun x y => !(ltM m) y x) = sortM m xs from sortM_merge hs xs] at hS

end Go.Proofs.Ytkhdhopgiooloaa

set_option maxHeartbeats 400000
set_option linter.unusedSimpArgs false
set_option linter.unusedVariables false
set_option maxRecDepth 20000
namespace Go.Proofs.Ytkhdhopgiooloaa
open Go Go.TL

theorem law21_Small_c {p0 : Table} {p1 : Inter} {r : Bool} (hm : law21_Small p0 p1 = some r) : RetN Try.prog 8 [p0.enc, p1.enc] (.bool (r)) := by
  refine .unit (ret_bodyS callB8 Try.func8 rfl Try.ntmps8 rfl rfl (fun wX gX => ?_)) rfl
  unfold law21_Small at hm
  refine w_norm [0, 1] rfl rfl ?_
  refine twp_rseq ?_
  refine s_bx 0 rfl rfl rfl ?_
  refine s_bx 1 rfl rfl rfl ?_
  refine s_a tab_ok rfl ?_
  refine tops_nil ?_
  refine w_norm [2, 3] rfl rfl ?_
  refine w_joinS hm (fun _ => ([] : Fr)) (fun _ => ([] : List (Nat × Blk))) [] [2, 3] rfl (fun z1 hm hz1 => ?_) (fun j hm => ?_)
  · refine twp_rseq ?_
    iterate 2 (refine s_a tab_ok rfl ?_)
    refine s_x rfl rfl (x_len tab_ok rfl rfl rfl) ?_
    refine s_a tab_ok rfl ?_
    refine tops_nil ?_
    refine w_norm [2, 3, 9, 10] rfl rfl ?_
    refine twp_block ?_
    refine w_loop hm (fun x3 => ([(10, .d (.int .i64 x3))] : Fr)) (fun x3 => ([] : List (Nat × Blk))) [10] [2, 3, 9] [0, 1] rfl k0 rfl rfl rfl rfl rfl (fun x3 z4 hm hz4 => ?_)
    refine w_norm [2, 3, 9, 10] rfl rfl ?_
    refine twp_rseq ?_
    refine s_a tab_ok rfl ?_
    refine tops_nil ?_
    refine w_norm [2, 3, 9, 10, 11] rfl rfl ?_
    refine twp_seq ?_
    refine twp_cond _ rfl (fun h5 => ?_) (fun h5 => ?_)
    · replace hm := ite_T h5 hm
      refine twp_skip ?_
      refine way_then ?_
      refine w_norm [2, 3, 9, 10] rfl rfl ?_
      refine twp_seq ?_
      refine twp_block ?_
      refine twp_rseq ?_
      iterate 2 (refine s_a tab_ok rfl ?_)
      refine tops_nil ?_
      refine w_norm [2, 3, 5, 9, 10] rfl rfl ?_
      refine twp_rseq ?_
      iterate 3 (refine s_a tab_ok rfl ?_)
      obtain ⟨e6, he6, hm⟩ := get_inv hm
      refine s_x rfl rfl (x_ix tab_ok rfl rfl rfl rfl he6) ?_
      refine s_a tab_ok rfl ?_
      refine s_al 2 rfl rfl zero50 rfl ?_
      refine s_wkb 2 [none, none, none, some 3, some 2, some 1, none, none, some 3, some 2, some 1, some 2, some 1, some 2] rfl rfl ?_
      refine s_a tab_ok rfl ?_
      refine tops_nil ?_
      refine w_norm [2, 3, 6, 9, 10] rfl rfl ?_
      refine w_cut [(51, .d (.bool (((decide ((30 : Int) < (e6.sections.length : Int))) || ((decide ((30 : Int) < (e6.overSections.length : Int))) || ((decide ((30 : Int) < (e6.points.length : Int))) || ((decide ((30 : Int) < (e6.overPoints.length : Int))) || ((decide ((30 : Int) < (e6.flank.length : Int))) || (decide ((30 : Int) < (e6.path.length : Int)))))))))))] [51] [2, 3, 9, 10] rfl ?_ ?_
      · refine twp_region ?_
        iterate 2 (refine s_a tab_ok rfl ?_)
        refine s_x rfl rfl (x_len tab_ok rfl rfl rfl) ?_
        refine s_a tab_ok rfl ?_
        refine s_b tab_ok rfl (fun q7 hq7 => ?_)
        cases q7
        · iterate 2 (refine s_a tab_ok rfl ?_)
          refine s_x rfl rfl (x_len tab_ok rfl rfl rfl) ?_
          iterate 2 (refine s_a tab_ok rfl ?_)
          refine s_b tab_ok rfl (fun q8 hq8 => ?_)
          cases q8
          · iterate 2 (refine s_a tab_ok rfl ?_)
            refine s_x rfl rfl (x_len tab_ok rfl rfl rfl) ?_
            iterate 2 (refine s_a tab_ok rfl ?_)
            refine s_b tab_ok rfl (fun q9 hq9 => ?_)
            cases q9
            · iterate 2 (refine s_a tab_ok rfl ?_)
              refine s_x rfl rfl (x_len tab_ok rfl rfl rfl) ?_
              iterate 2 (refine s_a tab_ok rfl ?_)
              refine s_b tab_ok rfl (fun q10 hq10 => ?_)
              cases q10
              · iterate 2 (refine s_a tab_ok rfl ?_)
                refine s_x rfl rfl (x_len tab_ok rfl rfl rfl) ?_
                iterate 2 (refine s_a tab_ok rfl ?_)
                refine s_b tab_ok rfl (fun q11 hq11 => ?_)
                cases q11
                · iterate 2 (refine s_a tab_ok rfl ?_)
                  refine s_x rfl rfl (x_len tab_ok rfl rfl rfl) ?_
                  iterate 2 (refine s_a tab_ok rfl ?_)
                  refine tops_nil ?_
                  refine way_then ?_
                  exact ⟨[0, 1, 2], rfl, k0, st_eq (fr_cons (av_bool (by simp [hq7, hq8, hq9, hq10, hq11])) rfl) rfl⟩
                · iterate 5 (refine s_a tab_ok rfl ?_)
                  refine tops_nil ?_
                  refine way_then ?_
                  exact ⟨[0, 1, 2], rfl, k0, st_eq (fr_cons (av_bool (by simp [hq7, hq8, hq9, hq10, hq11])) rfl) rfl⟩
              · iterate 11 (refine s_a tab_ok rfl ?_)
                refine tops_nil ?_
                refine way_then ?_
                exact ⟨[0, 1, 2], rfl, k0, st_eq (fr_cons (av_bool (by simp [hq7, hq8, hq9, hq10])) rfl) rfl⟩
            · iterate 17 (refine s_a tab_ok rfl ?_)
              refine tops_nil ?_
              refine way_then ?_
              exact ⟨[0, 1, 2], rfl, k0, st_eq (fr_cons (av_bool (by simp [hq7, hq8, hq9])) rfl) rfl⟩
          · iterate 23 (refine s_a tab_ok rfl ?_)
            refine tops_nil ?_
            refine way_then ?_
            exact ⟨[0, 1, 2], rfl, k0, st_eq (fr_cons (av_bool (by simp [hq7, hq8])) rfl) rfl⟩
        · iterate 29 (refine s_a tab_ok rfl ?_)
          refine tops_nil ?_
          refine way_then ?_
          exact ⟨[0, 1, 2], rfl, k0, st_eq (fr_cons (av_bool (by simp [hq7])) rfl) rfl⟩
      · refine w_norm [2, 3, 9, 10, 51] rfl rfl ?_
        refine twp_cond _ rfl (fun h12 => ?_) (fun h12 => ?_)
        · replace hm := iteB_T h12 hm
          refine twp_rseq ?_
          refine s_a tab_ok rfl ?_
          refine tops_nil ?_
          refine w_norm [4] rfl rfl ?_
          refine twp_ret ?_
          refine way_blockRet ?_
          refine way_thenRet ?_
          obtain ⟨v13, hm, hz⟩ := inr_inv hm
          rw [hz4 _ hz] at hm
          refine way_thenRet ?_
          refine way_blockRet ?_
          obtain ⟨v14, hm, hz⟩ := inr_inv hm
          rw [hz1 _ hz] at hm
          refine way_thenRet ?_
          obtain rfl := Option.some.inj hm
          exact EndsS.one _ rfl (.d _) (.refl _)
        · replace hm := iteB_F h12 hm
          refine twp_skip ?_
          refine way_block ?_
          refine way_then ?_
          refine w_norm [2, 3, 9, 10] rfl rfl ?_
          refine twp_region ?_
          obtain ⟨g15, hm⟩ := guard_inv hm
          refine s_x rfl rfl (x_ar rfl rfl rfl rfl g15) ?_
          refine s_a tab_ok rfl ?_
          refine tops_nil ?_
          refine way_then ?_
          exact ⟨_, [0, 1], (Option.some.inj hm).symm, rfl, k0, rfl⟩
    · replace hm := ite_F h5 hm
      refine twp_exit ?_
      refine way_thenExit ?_
      obtain ⟨v16, hm, hz⟩ := inr_inv hm
      rw [hz4 _ hz] at hm
      refine way_thenExit ?_
      refine way_here ?_
      refine way_then ?_
      exact ⟨_, [0, 1], (Option.some.inj hm).symm, rfl, k0, rfl⟩
  · refine w_norm [2, 3] rfl rfl ?_
    refine w_cut [(4, .d (.bool (((decide ((p0.routes.length : Int) ≤ (50 : Int))) && ((decide ((p0.points.length : Int) ≤ (40 : Int))) && ((decide ((p0.homes.length : Int) ≤ (40 : Int))) && ((decide ((p1.routes.length : Int) ≤ (50 : Int))) && (decide ((p1.lies.length : Int) ≤ (40 : Int))))))))))] [4] [] rfl ?_ ?_
    · refine twp_region ?_
      iterate 2 (refine s_a tab_ok rfl ?_)
      refine s_x rfl rfl (x_len tab_ok rfl rfl rfl) ?_
      refine s_a tab_ok rfl ?_
      refine s_b tab_ok rfl (fun q17 hq17 => ?_)
      cases q17
      · iterate 24 (refine s_a tab_ok rfl ?_)
        refine tops_nil ?_
        refine way_then ?_
        exact ⟨[0, 1], rfl, k0, st_eq (fr_cons (av_bool (by simp [hq17])) rfl) rfl⟩
      · iterate 2 (refine s_a tab_ok rfl ?_)
        refine s_x rfl rfl (x_len tab_ok rfl rfl rfl) ?_
        iterate 2 (refine s_a tab_ok rfl ?_)
        refine s_b tab_ok rfl (fun q18 hq18 => ?_)
        cases q18
        · iterate 18 (refine s_a tab_ok rfl ?_)
          refine tops_nil ?_
          refine way_then ?_
          exact ⟨[0, 1], rfl, k0, st_eq (fr_cons (av_bool (by simp [hq17, hq18])) rfl) rfl⟩
        · iterate 2 (refine s_a tab_ok rfl ?_)
          refine s_x rfl rfl (x_len tab_ok rfl rfl rfl) ?_
          iterate 2 (refine s_a tab_ok rfl ?_)
          refine s_b tab_ok rfl (fun q19 hq19 => ?_)
          cases q19
          · iterate 12 (refine s_a tab_ok rfl ?_)
            refine tops_nil ?_
            refine way_then ?_
            exact ⟨[0, 1], rfl, k0, st_eq (fr_cons (av_bool (by simp [hq17, hq18, hq19])) rfl) rfl⟩
          · iterate 2 (refine s_a tab_ok rfl ?_)
            refine s_x rfl rfl (x_len tab_ok rfl rfl rfl) ?_
            iterate 2 (refine s_a tab_ok rfl ?_)
            refine s_b tab_ok rfl (fun q20 hq20 => ?_)
            cases q20
            · iterate 6 (refine s_a tab_ok rfl ?_)
              refine tops_nil ?_
              refine way_then ?_
              exact ⟨[0, 1], rfl, k0, st_eq (fr_cons (av_bool (by simp [hq17, hq18, hq19, hq20])) rfl) rfl⟩
            · iterate 2 (refine s_a tab_ok rfl ?_)
              refine s_x rfl rfl (x_len tab_ok rfl rfl rfl) ?_
              iterate 3 (refine s_a tab_ok rfl ?_)
              refine tops_nil ?_
              refine way_then ?_
              exact ⟨[0, 1], rfl, k0, st_eq (fr_cons (av_bool (by simp [hq17, hq18, hq19, hq20])) rfl) rfl⟩
    · refine w_norm [4] rfl rfl ?_
      refine twp_ret ?_
      obtain rfl := Option.some.inj hm
      exact EndsS.one _ rfl (.d _) (.refl _)

theorem law22_Few_c {p0 : Inputs} {r : Bool} (hm : law22_Few p0 = some r) : RetN Try.prog 9 [p0.enc] (.bool (r)) := by
  refine .unit (ret_bodyS callB9 Try.func9 rfl Try.ntmps9 rfl rfl (fun wX gX => ?_)) rfl
  unfold law22_Few at hm
  refine w_norm [0] rfl rfl ?_
  refine twp_rseq ?_
  refine s_bx 0 rfl rfl rfl ?_
  refine s_a tab_ok rfl ?_
  refine tops_nil ?_
  refine w_norm [1] rfl rfl ?_
  refine w_cut [(2, .d (.bool (((decide ((p0.occupied.length : Int) ≤ (100 : Int))) && ((decide ((p0.detected.length : Int) ≤ (100 : Int))) && ((decide ((p0.closed.length : Int) ≤ (100 : Int))) && ((decide ((p0.claimed.length : Int) ≤ (100 : Int))) && ((decide ((p0.passed.length : Int) ≤ (100 : Int))) && ((decide ((p0.calls.length : Int) ≤ (100 : Int))) && (decide ((p0.cancels.length : Int) ≤ (100 : Int))))))))))))] [2] [] rfl ?_ ?_
  · refine twp_region ?_
    iterate 2 (refine s_a tab_ok rfl ?_)
    refine s_x rfl rfl (x_len tab_ok rfl rfl rfl) ?_
    refine s_a tab_ok rfl ?_
    refine s_b tab_ok rfl (fun q1 hq1 => ?_)
    cases q1
    · iterate 36 (refine s_a tab_ok rfl ?_)
      refine tops_nil ?_
      refine way_then ?_
      exact ⟨[0], rfl, k0, st_eq (fr_cons (av_bool (by simp [hq1])) rfl) rfl⟩
    · iterate 2 (refine s_a tab_ok rfl ?_)
      refine s_x rfl rfl (x_len tab_ok rfl rfl rfl) ?_
      iterate 2 (refine s_a tab_ok rfl ?_)
      refine s_b tab_ok rfl (fun q2 hq2 => ?_)
      cases q2
      · iterate 30 (refine s_a tab_ok rfl ?_)
        refine tops_nil ?_
        refine way_then ?_
        exact ⟨[0], rfl, k0, st_eq (fr_cons (av_bool (by simp [hq1, hq2])) rfl) rfl⟩
      · iterate 2 (refine s_a tab_ok rfl ?_)
        refine s_x rfl rfl (x_len tab_ok rfl rfl rfl) ?_
        iterate 2 (refine s_a tab_ok rfl ?_)
        refine s_b tab_ok rfl (fun q3 hq3 => ?_)
        cases q3
        · iterate 24 (refine s_a tab_ok rfl ?_)
          refine tops_nil ?_
          refine way_then ?_
          exact ⟨[0], rfl, k0, st_eq (fr_cons (av_bool (by simp [hq1, hq2, hq3])) rfl) rfl⟩
        · iterate 2 (refine s_a tab_ok rfl ?_)
          refine s_x rfl rfl (x_len tab_ok rfl rfl rfl) ?_
          iterate 2 (refine s_a tab_ok rfl ?_)
          refine s_b tab_ok rfl (fun q4 hq4 => ?_)
          cases q4
          · iterate 18 (refine s_a tab_ok rfl ?_)
            refine tops_nil ?_
            refine way_then ?_
            exact ⟨[0], rfl, k0, st_eq (fr_cons (av_bool (by simp [hq1, hq2, hq3, hq4])) rfl) rfl⟩
          · iterate 2 (refine s_a tab_ok rfl ?_)
            refine s_x rfl rfl (x_len tab_ok rfl rfl rfl) ?_
            iterate 2 (refine s_a tab_ok rfl ?_)
            refine s_b tab_ok rfl (fun q5 hq5 => ?_)
            cases q5
            · iterate 12 (refine s_a tab_ok rfl ?_)
              refine tops_nil ?_
              refine way_then ?_
              exact ⟨[0], rfl, k0, st_eq (fr_cons (av_bool (by simp [hq1, hq2, hq3, hq4, hq5])) rfl) rfl⟩
            · iterate 2 (refine s_a tab_ok rfl ?_)
              refine s_x rfl rfl (x_len tab_ok rfl rfl rfl) ?_
              iterate 2 (refine s_a tab_ok rfl ?_)
              refine s_b tab_ok rfl (fun q6 hq6 => ?_)
              cases q6
              · iterate 6 (refine s_a tab_ok rfl ?_)
                refine tops_nil ?_
                refine way_then ?_
                exact ⟨[0], rfl, k0, st_eq (fr_cons (av_bool (by simp [hq1, hq2, hq3, hq4, hq5, hq6])) rfl) rfl⟩
              · iterate 2 (refine s_a tab_ok rfl ?_)
                refine s_x rfl rfl (x_len tab_ok rfl rfl rfl) ?_
                iterate 3 (refine s_a tab_ok rfl ?_)
                refine tops_nil ?_
                refine way_then ?_
                exact ⟨[0], rfl, k0, st_eq (fr_cons (av_bool (by simp [hq1, hq2, hq3, hq4, hq5, hq6])) rfl) rfl⟩
  · refine w_norm [2] rfl rfl ?_
    refine twp_ret ?_
    obtain rfl := Option.some.inj hm
    exact EndsS.one _ rfl (.d _) (.refl _)

theorem law22_Table_c  {r : Table} (hm : law22_Table  = some r) : RetD Try.prog 23 [] (r.enc) := by
  refine .of (mv := fun _ => false) (ret_bodyS callB23 Try.func23 rfl Try.ntmps23 rfl rfl (fun wX gX => ?_))
  unfold law22_Table at hm
  refine w_norm [] rfl rfl ?_
  refine twp_rseq ?_
  refine s_al 0 rfl rfl zero25 rfl ?_
  refine s_wkb 0 [some 14, some 1, some 1, none, none] rfl rfl ?_
  refine tops_nil ?_
  refine w_norm [0] rfl rfl ?_
  refine twp_rseq ?_
  refine s_x rfl rfl (build_d rfl plc66 zero66 rfl rfl rfl rfl) ?_
  refine s_x rfl rfl (x_lit [.tmp 1] tab_ok rfl rfl zero66 rfl rfl rfl rfl rfl) ?_
  refine s_x rfl rfl (x_lit [.const (Value.int IntKind.i64 1), .const (Value.int IntKind.i64 2)] tab_ok rfl rfl zero3 rfl rfl rfl rfl rfl) ?_
  refine s_x rfl rfl (build_d rfl plc50 zero50 rfl rfl rfl rfl) ?_
  refine s_wk 4 [none, none, none, none, some 2, none, none, none, some 3, some 2, some 1, some 2, some 1, some 2] rfl ?_
  refine s_x rfl rfl (x_lit [.tmp 4] tab_ok rfl rfl zero50 rfl rfl rfl rfl rfl) ?_
  refine s_x rfl rfl (build_d rfl plc25 zero25 rfl rfl rfl rfl) ?_
  refine s_wk 6 [none, some 1, some 1, none, none] rfl ?_
  refine s_a tab_ok rfl ?_
  refine tops_nil ?_
  refine w_norm [0] rfl rfl ?_
  refine twp_ret ?_
  obtain rfl := Option.some.inj hm
  exact EndsS.cellR _ tab_ok rfl rfl rfl rfl rfl (.d _)

theorem table_within_c {p0 : Int} {p1 : Int} {r : Bool} (hm : table_within p0 p1 = some r) : RetN Try.prog 60 [.int .i64 p0, .int .i64 p1] (.bool (r)) := by
  refine .unit (ret_bodyS callB60 Try.func60 rfl Try.ntmps60 rfl rfl (fun wX gX => ?_)) rfl
  unfold table_within at hm
  refine w_norm [0, 1] rfl rfl ?_
  refine twp_rseq ?_
  refine s_a tab_ok rfl ?_
  refine tops_nil ?_
  refine w_norm [0, 1] rfl rfl ?_
  refine w_cut [(4, .d (.bool (((decide ((0 : Int) ≤ p0)) && (decide (p0 < p1))))))] [4] [] rfl ?_ ?_
  · refine twp_region ?_
    iterate 2 (refine s_a tab_ok rfl ?_)
    refine s_b tab_ok rfl (fun q1 hq1 => ?_)
    cases q1
    · iterate 5 (refine s_a tab_ok rfl ?_)
      refine tops_nil ?_
      refine way_then ?_
      exact ⟨[], rfl, k0, st_eq (fr_cons (av_bool (by simp [hq1])) rfl) rfl⟩
    · iterate 5 (refine s_a tab_ok rfl ?_)
      refine tops_nil ?_
      refine way_then ?_
      exact ⟨[], rfl, k0, st_eq (fr_cons (av_bool (by simp [hq1])) rfl) rfl⟩
  · refine w_norm [4] rfl rfl ?_
    refine twp_ret ?_
    obtain rfl := Option.some.inj hm
    exact EndsS.one _ rfl (.d _) (.refl _)

theorem table_pointsRight_c {p0 : Table} {r : Bool} (hm : table_pointsRight p0 = some r) : RetN Try.prog 61 [p0.enc] (.bool (r)) := by
  refine .unit (ret_bodyS callB61 Try.func61 rfl Try.ntmps61 rfl rfl (fun wX gX => ?_)) rfl
  unfold table_pointsRight at hm
  refine w_norm [0] rfl rfl ?_
  refine twp_rseq ?_
  refine s_bx 0 rfl rfl rfl ?_
  refine s_a tab_ok rfl ?_
  refine tops_nil ?_
  refine w_norm [1] rfl rfl ?_
  refine twp_seq ?_
  refine twp_rseq ?_
  iterate 2 (refine s_a tab_ok rfl ?_)
  refine s_x rfl rfl (x_len tab_ok rfl rfl rfl) ?_
  iterate 2 (refine s_a tab_ok rfl ?_)
  refine s_x rfl rfl (x_len tab_ok rfl rfl rfl) ?_
  refine s_a tab_ok rfl ?_
  refine tops_nil ?_
  refine w_norm [1, 11] rfl rfl ?_
  refine twp_cond _ rfl (fun h1 => ?_) (fun h1 => ?_)
  · replace hm := iteN_T h1 hm
    refine twp_rseq ?_
    refine s_a tab_ok rfl ?_
    refine tops_nil ?_
    refine w_norm [2] rfl rfl ?_
    refine twp_ret ?_
    refine way_thenRet ?_
    obtain rfl := Option.some.inj hm
    exact EndsS.one _ rfl (.d _) (.refl _)
  · replace hm := iteN_F h1 hm
    refine twp_skip ?_
    refine way_then ?_
    refine w_norm [1] rfl rfl ?_
    refine w_joinS hm (fun _ => ([] : Fr)) (fun _ => ([] : List (Nat × Blk))) [] [] rfl (fun z2 hm hz2 => ?_) (fun j hm => ?_)
    · refine twp_rseq ?_
      iterate 2 (refine s_a tab_ok rfl ?_)
      refine s_x rfl rfl (x_len tab_ok rfl rfl rfl) ?_
      refine s_a tab_ok rfl ?_
      refine tops_nil ?_
      refine w_norm [1, 13, 14, 15] rfl rfl ?_
      refine twp_block ?_
      refine w_loop hm (fun x4 => ([(15, .d (.int .i64 x4))] : Fr)) (fun x4 => ([] : List (Nat × Blk))) [15] [1, 13, 14] [0] rfl k0 rfl rfl rfl rfl rfl (fun x4 z5 hm hz5 => ?_)
      refine w_norm [1, 13, 14, 15] rfl rfl ?_
      refine twp_rseq ?_
      refine s_a tab_ok rfl ?_
      refine tops_nil ?_
      refine w_norm [1, 13, 14, 15, 16] rfl rfl ?_
      refine twp_seq ?_
      refine twp_cond _ rfl (fun h6 => ?_) (fun h6 => ?_)
      · replace hm := ite_T h6 hm
        refine twp_skip ?_
        refine way_then ?_
        refine w_norm [1, 13, 14, 15] rfl rfl ?_
        refine twp_seq ?_
        refine twp_block ?_
        refine twp_rseq ?_
        refine s_a tab_ok rfl ?_
        obtain ⟨e7, he7, hm⟩ := get_inv hm
        refine s_x rfl rfl (x_ix tab_ok rfl rfl rfl rfl he7) ?_
        iterate 3 (refine s_a tab_ok rfl ?_)
        refine tops_nil ?_
        refine w_norm [1, 3, 4, 13, 14, 15] rfl rfl ?_
        refine w_joinM hm (fun x8 => ([(46, .d (.bool (x8)))] : Fr)) (fun x8 => ([] : List (Nat × Blk))) [46] [1, 13, 14, 15] rfl (fun z9 hm => ?_) (fun x8 hm => ?_)
        · refine twp_draw follows  ?_
          iterate 2 (refine d_a [0] tab_ok rfl ?_)
          refine d_b [0] tab_ok rfl (fun q10 hq10 => ?_)
          cases q10
          · replace hm := ite_F hq10 hm
            iterate 2 (refine d_a [0] tab_ok rfl ?_)
            refine d_b [0] tab_ok rfl (fun q11 hq11 => ?_)
            cases q11
            · replace hm := ite_F hq11 hm
              iterate 14 (refine d_a [0] tab_ok rfl ?_)
              obtain ⟨e12, he12, hm⟩ := get_inv hm
              refine d_x [0] rfl rfl (x_ix tab_ok rfl rfl rfl rfl he12) ?_
              iterate 3 (refine d_a [0] tab_ok rfl ?_)
              obtain ⟨r13, hr13, hm⟩ := bind_inv hm
              refine d_x [0] rfl rfl (rd_callRN rfl rfl (snaps_cons (.d _) (snaps_cons (.d _) snaps_nil)) (table_within_c hr13)) ?_
              iterate 2 (refine d_a [0] tab_ok rfl ?_)
              refine d_tail ?_ (by kernel_rfl)
              refine tops_nil ?_
              refine way_then ?_
              exact ⟨_, [0], (Option.some.inj hm).symm, rfl, k0, rfl⟩
            · replace hm := ite_T hq11 hm
              iterate 4 (refine d_a [0] tab_ok rfl ?_)
              obtain ⟨g14, hm⟩ := guard_inv hm
              refine d_x [0] rfl rfl (x_ar rfl rfl rfl rfl g14) ?_
              obtain ⟨e15, he15, hm⟩ := get_inv hm
              refine d_x [0] rfl rfl (x_ix tab_ok rfl rfl rfl rfl he15) ?_
              iterate 4 (refine d_a [0] tab_ok rfl ?_)
              refine d_b [0] tab_ok rfl (fun q16 hq16 => ?_)
              cases q16
              · replace hm := ite_F hq16 hm
                iterate 3 (refine d_a [0] tab_ok rfl ?_)
                obtain ⟨e17, he17, hm⟩ := get_inv hm
                refine d_x [0] rfl rfl (x_ix tab_ok rfl rfl rfl rfl he17) ?_
                iterate 3 (refine d_a [0] tab_ok rfl ?_)
                obtain ⟨r18, hr18, hm⟩ := bind_inv hm
                refine d_x [0] rfl rfl (rd_callRN rfl rfl (snaps_cons (.d _) (snaps_cons (.d _) snaps_nil)) (table_within_c hr18)) ?_
                iterate 2 (refine d_a [0] tab_ok rfl ?_)
                refine d_tail ?_ (by kernel_rfl)
                refine tops_nil ?_
                refine way_then ?_
                exact ⟨_, [0], (Option.some.inj hm).symm, rfl, k0, rfl⟩
              · replace hm := ite_T hq16 hm
                iterate 10 (refine d_a [0] tab_ok rfl ?_)
                refine d_tail ?_ (by kernel_rfl)
                refine tops_nil ?_
                refine way_then ?_
                exact ⟨_, [0], (Option.some.inj hm).symm, rfl, k0, rfl⟩
          · replace hm := ite_T hq10 hm
            iterate 24 (refine d_a [0] tab_ok rfl ?_)
            refine d_tail ?_ (by kernel_rfl)
            refine tops_nil ?_
            refine way_then ?_
            exact ⟨_, [0], (Option.some.inj hm).symm, rfl, k0, rfl⟩
        · refine w_norm [1, 13, 14, 15, 46] rfl rfl ?_
          refine twp_cond _ rfl (fun h19 => ?_) (fun h19 => ?_)
          · replace hm := iteB_T h19 hm
            refine twp_rseq ?_
            refine s_a tab_ok rfl ?_
            refine tops_nil ?_
            refine w_norm [2] rfl rfl ?_
            refine twp_ret ?_
            refine way_blockRet ?_
            refine way_thenRet ?_
            obtain ⟨v20, hm, hz⟩ := inr_inv hm
            rw [hz5 _ hz] at hm
            refine way_thenRet ?_
            refine way_blockRet ?_
            obtain ⟨v21, hm, hz⟩ := inr_inv hm
            rw [hz2 _ hz] at hm
            refine way_thenRet ?_
            obtain rfl := Option.some.inj hm
            exact EndsS.one _ rfl (.d _) (.refl _)
          · replace hm := iteB_F h19 hm
            refine twp_skip ?_
            refine way_block ?_
            refine way_then ?_
            refine w_norm [1, 13, 14, 15] rfl rfl ?_
            refine twp_region ?_
            obtain ⟨g22, hm⟩ := guard_inv hm
            refine s_x rfl rfl (x_ar rfl rfl rfl rfl g22) ?_
            refine s_a tab_ok rfl ?_
            refine tops_nil ?_
            refine way_then ?_
            exact ⟨_, [0], (Option.some.inj hm).symm, rfl, k0, rfl⟩
      · replace hm := ite_F h6 hm
        refine twp_exit ?_
        refine way_thenExit ?_
        obtain ⟨v23, hm, hz⟩ := inr_inv hm
        rw [hz5 _ hz] at hm
        refine way_thenExit ?_
        refine way_here ?_
        refine way_then ?_
        exact ⟨_, [0], (Option.some.inj hm).symm, rfl, k0, rfl⟩
    · refine w_norm [] rfl rfl ?_
      refine twp_rseq ?_
      refine s_a tab_ok rfl ?_
      refine tops_nil ?_
      refine w_norm [2] rfl rfl ?_
      refine twp_ret ?_
      obtain rfl := Option.some.inj hm
      exact EndsS.one _ rfl (.d _) (.refl _)

theorem slices_Concat_intGrow (n : Nat) (hn : n ≤ 1000000000) (mv : Nat → Bool) : Ret Try.prog 69 [] mv ([.nilsl, .int .i64 n].map .d) (.msl 0 1 0 0) [.flat 3 1 []] := by
  refine ret_body callB69 Try.func69 rfl Try.ntmps69 rfl rfl (fun wX gX => ?_)
  refine twp_norm [0, 1] (sub_d rfl (sub_d rfl .nil)) (blk_nil rfl) ?_
  refine twp_rseq ?_
  refine s_rd _ rfl (mv_d (.inr rfl) rfl) ?_
  refine tops_nil ?_
  refine twp_norm [0, 1] (sub_d rfl (sub_d rfl .nil)) (blk_nil rfl) ?_
  refine twp_seq ?_
  refine twp_rseq ?_
  refine s_rd _ rfl (mv_d (.inl rfl) rfl) ?_
  refine s_rd _ rfl (cmp_int rfl rfl rfl rfl) ?_
  refine tops_nil ?_
  refine twp_norm [0, 1, 6] (sub_d rfl (sub_d rfl (sub_d rfl .nil))) (blk_nil rfl) ?_
  refine twp_cond _ rfl (fun hneg => ?_) (fun hneg => ?_)
  · exact absurd (of_decide_eq_true hneg) (by omega)
  · refine twp_skip ?_
    refine way_then ?_
    refine twp_norm [0, 1] (sub_d rfl (sub_d rfl .nil)) (blk_nil rfl) ?_
    refine twp_seq ?_
    refine twp_rseq ?_
    refine s_rd _ rfl (mv_d (.inl rfl) rfl) ?_
    refine s_rd _ rfl (mv_d (.inl rfl) rfl) ?_
    refine s_rd _ rfl (cap_nil rfl sel23 rfl) ?_
    refine s_rd _ rfl (mv_d (.inl rfl) rfl) ?_
    refine s_rd _ rfl (len_nil rfl sel23 rfl) ?_
    refine s_rd _ rfl (arith_to (r := 0) rfl rfl rfl rfl rfl (by first | omega | (constructor <;> omega))) ?_
    refine s_rd _ rfl (arith_to (r := (n : Int)) rfl rfl rfl rfl (by omega) (by first | omega | (constructor <;> omega))) ?_
    refine s_rd _ rfl (mv_d (.inr rfl) rfl) ?_
    refine tops_nil ?_
    refine twp_norm [0, 1] (sub_d rfl (sub_d rfl .nil)) (blk_nil rfl) ?_
    refine twp_rseq ?_
    refine s_rd _ rfl (mv_d (.inl rfl) rfl) ?_
    refine s_rd _ rfl (cmp_int rfl rfl rfl rfl) ?_
    refine tops_nil ?_
    refine twp_norm [0, 1, 16] (sub_d rfl (sub_d rfl (sub_d rfl .nil))) (blk_nil rfl) ?_
    refine twp_cond _ rfl (fun hpos => ?_) (fun hpos => ?_)
    · have hpos : 0 < n := by simpa using hpos
      refine twp_region ?_
      refine s_rd _ rfl (mv_d (.inl rfl) rfl) ?_
      refine s_rd _ rfl (mv_d (.inl rfl) rfl) ?_
      refine s_rd _ rfl (cap_nil rfl sel23 rfl) ?_
      refine s_rd _ rfl (cut_nil rfl sel23 rfl rfl rfl) ?_
      refine s_rd _ rfl (mv_d (.inl rfl) rfl) ?_
      refine s_zeros (n := n) rfl sel23 Try.underlying3 zero3 rfl rfl rfl hpos (by decide) (by omega) (by omega) ?_
      refine s_rd _ rfl (mv_d (.inl rfl) rfl) ?_
      refine s_rd _ rfl (len_nil rfl sel23 rfl) ?_
      refine s_rd _ rfl (rd_cut_msl 0 1 8 0 n 0 0 rfl sel23 rfl rfl rfl (Nat.le_refl _) (Nat.zero_le _)) ?_
      refine s_rd _ rfl (mv_msl (.inr rfl) rfl) ?_
      refine tops_nil ?_
      refine way_then ?_
      refine twp_norm [0] (sub_msl rfl .nil) (blk_flat rfl (blk_nil rfl)) ?_
      refine twp_rseq ?_
      refine s_rd _ rfl (mv_msl (.inl rfl) rfl) ?_
      refine s_rd _ rfl (mv_msl (.inr rfl) rfl) ?_
      refine tops_nil ?_
      refine twp_norm [4] (sub_msl rfl .nil) (blk_flat rfl (blk_nil rfl)) ?_
      refine twp_ret ?_
      exact ⟨_, [0], res rfl, by decide, fun i hi => absurd hi (Nat.not_lt_zero i), rfl, rfl⟩
    · refine twp_upgrade 0 3 1 rfl ?_
      refine twp_skip ?_
      refine way_then ?_
      refine twp_norm [0] (sub_msl rfl .nil) (blk_flat rfl (blk_nil rfl)) ?_
      refine twp_rseq ?_
      refine s_rd _ rfl (mv_msl (.inl rfl) rfl) ?_
      refine s_rd _ rfl (mv_msl (.inr rfl) rfl) ?_
      refine tops_nil ?_
      refine twp_norm [4] (sub_msl rfl .nil) (blk_flat rfl (blk_nil rfl)) ?_
      refine twp_ret ?_
      exact ⟨_, [0], res rfl, by decide, fun i hi => absurd hi (Nat.not_lt_zero i), rfl, rfl⟩

theorem slices_Concat_intConcat (xss : List (List Int)) (hn : xss.length ≤ 1000) (ht : xss.flatten.length ≤ 1000000000) (mv : Nat → Bool) : Ret Try.prog 49 [] mv ([.sl 1 (xss.map fun l => .sl 1 (l.map (D.int .i64)))].map .d) (.msl 0 1 0 xss.flatten.length) [.flat 3 1 (xss.flatten.map (D.int .i64))] := by
  refine ret_body callB49 Try.func49 rfl Try.ntmps49 rfl rfl (fun wX gX => ?_)
  refine twp_norm [0] (sub_d rfl .nil) (blk_nil rfl) ?_
  refine twp_rseq ?_
  refine s_rd _ rfl (mv_d (.inr rfl) rfl) ?_
  refine tops_nil ?_
  refine twp_norm [0] (sub_d rfl .nil) (blk_nil rfl) ?_
  refine twp_rseq ?_
  refine s_rd _ rfl (mv_d (.inr rfl) rfl) ?_
  refine tops_nil ?_
  refine twp_norm [0, 3] (sub_d rfl (sub_d rfl .nil)) (blk_nil rfl) ?_
  refine twp_seq ?_
  refine twp_rseq ?_
  refine s_rd _ rfl (mv_d (.inl rfl) rfl) ?_
  refine s_rd _ rfl (by first | exact len_d rfl sel82 rfl (by first | exact List.length_map _ | rfl) | exact len_nil rfl sel82 rfl) ?_
  refine s_rd _ rfl (mv_d (.inl rfl) rfl) ?_
  refine tops_nil ?_
  refine twp_norm [0, 3, 9, 10, 11] (sub_d rfl (sub_d rfl (sub_d rfl (sub_d rfl (sub_d rfl .nil))))) (blk_nil rfl) ?_
  refine twp_block ?_
  refine twp_whileK (fun i => ([(3, .d (.int .i64 ((flatTo xss i).length : Int))), (11, .d (.int .i64 ((i : Nat) : Int)))] : Fr)) (fun i => ([] : List (Nat × Blk))) (fun i => i ≤ xss.length) (fun i => xss.length - i) [3, 11] [0, 9, 10] [] 0 (by decide) (fun i hi => absurd hi (Nat.not_lt_zero i)) (Nat.zero_le _) (sub_d rfl (sub_d rfl (sub_d rfl .nil))) rfl (by rw [flat_zero]; rfl) (blk_nil rfl) rfl ?_
  rintro i hok
  refine twp_norm [3, 11, 0, 9, 10] (sub_d rfl (sub_d rfl (sub_d rfl (sub_d rfl (sub_d rfl .nil))))) (blk_nil rfl) ?_
  refine twp_rseq ?_
  refine s_rd _ rfl (cmp_int rfl rfl rfl rfl) ?_
  refine tops_nil ?_
  refine twp_norm [0, 3, 9, 10, 11, 12] (sub_d rfl (sub_d rfl (sub_d rfl (sub_d rfl (sub_d rfl (sub_d rfl .nil)))))) (blk_nil rfl) ?_
  refine twp_seq ?_
  refine twp_cond _ rfl (fun hlt => ?_) (fun hlt => ?_)
  · have hlt : i < xss.length := by simpa using hlt
    obtain ⟨x, hx⟩ : ∃ x, (xss)[i]? = some x := ⟨_, List.getElem?_eq_getElem (by first | exact hlt | omega | (simp; omega))⟩
    have hs := flat_succ hx
    have hle := flat_le xss (i + 1)
    refine twp_skip ?_
    refine way_then ?_
    refine twp_norm [0, 3, 9, 10, 11] (sub_d rfl (sub_d rfl (sub_d rfl (sub_d rfl (sub_d rfl .nil))))) (blk_nil rfl) ?_
    refine twp_seq ?_
    refine twp_block ?_
    refine twp_rseq ?_
    refine s_rd _ rfl (index_sl rfl sel82 rfl rfl (idx_map hx)) ?_
    refine s_rd _ rfl (load_ptr rfl lay23 rfl rfl) ?_
    refine s_rd _ rfl (mv_d (.inr rfl) rfl) ?_
    refine tops_nil ?_
    refine twp_norm [0, 3, 5, 9, 10, 11] (sub_d rfl (sub_d rfl (sub_d rfl (sub_d rfl (sub_d rfl (sub_d rfl .nil)))))) (blk_nil rfl) ?_
    refine twp_rseq ?_
    refine s_rd _ rfl (mv_d (.inl rfl) rfl) ?_
    refine s_rd _ rfl (mv_d (.inl rfl) rfl) ?_
    refine s_rd _ rfl (by first | exact len_d rfl sel23 rfl (by first | exact List.length_map _ | rfl) | exact len_nil rfl sel23 rfl) ?_
    refine s_rd _ rfl (arith_to (r := ((flatTo xss (i + 1)).length : Int)) rfl rfl rfl rfl (by rw [hs]; simp) (by omega)) ?_
    refine s_rd _ rfl (mv_d (.inr rfl) rfl) ?_
    refine tops_nil ?_
    refine twp_norm [0, 3, 9, 10, 11] (sub_d rfl (sub_d rfl (sub_d rfl (sub_d rfl (sub_d rfl .nil))))) (blk_nil rfl) ?_
    refine twp_rseq ?_
    refine s_rd _ rfl (mv_d (.inl rfl) rfl) ?_
    refine s_rd _ rfl (cmp_int rfl rfl rfl rfl) ?_
    refine tops_nil ?_
    refine twp_norm [0, 3, 9, 10, 11, 20] (sub_d rfl (sub_d rfl (sub_d rfl (sub_d rfl (sub_d rfl (sub_d rfl .nil)))))) (blk_nil rfl) ?_
    refine twp_cond _ rfl (fun hneg => ?_) (fun hneg => ?_)
    · exact absurd (of_decide_eq_true hneg) (by omega)
    · refine twp_skip ?_
      refine way_block ?_
      refine way_then ?_
      refine twp_norm [0, 3, 9, 10, 11] (sub_d rfl (sub_d rfl (sub_d rfl (sub_d rfl (sub_d rfl .nil))))) (blk_nil rfl) ?_
      refine twp_region ?_
      refine s_rd _ rfl (arith_ok rfl rfl rfl rfl (by first | omega | (constructor <;> omega))) ?_
      refine s_rd _ rfl (mv_d (.inl rfl) rfl) ?_
      refine tops_nil ?_
      refine way_then ?_
      exact ⟨(i + 1), [], by decide, (fun i hi => absurd hi (Nat.not_lt_zero i)), (by omega), (by omega), rfl⟩
  · have hge : ¬ i < xss.length := by simpa using hlt
    have hi : i = xss.length := by omega
    refine twp_exit ?_
    refine way_thenExit ?_
    refine way_thenExit ?_
    refine way_here ?_
    refine way_then ?_
    refine twp_norm [0, 3] (sub_d rfl (sub_d rfl .nil)) (blk_nil rfl) ?_
    refine twp_rseq ?_
    refine s_rd _ rfl (mv_d (.inl rfl) rfl) ?_
    refine s_callD rfl rfl rfl (slices_Concat_intGrow _ (by have := flat_le xss i; omega) (fun _ => false)) rfl rfl ?_
    refine s_rd _ rfl (mv_msl (.inr rfl) rfl) ?_
    refine tops_nil ?_
    refine twp_norm [0, 6] (sub_d rfl (sub_msl rfl .nil)) (blk_flat rfl (blk_nil rfl)) ?_
    refine twp_seq ?_
    refine twp_rseq ?_
    refine s_rd _ rfl (mv_d (.inl rfl) rfl) ?_
    refine s_rd _ rfl (by first | exact len_d rfl sel82 rfl (by first | exact List.length_map _ | rfl) | exact len_nil rfl sel82 rfl) ?_
    refine s_rd _ rfl (mv_d (.inl rfl) rfl) ?_
    refine tops_nil ?_
    refine twp_norm [6, 25, 26, 27] (sub_msl rfl (sub_d rfl (sub_d rfl (sub_d rfl .nil)))) (blk_flat rfl (blk_nil rfl)) ?_
    refine twp_block ?_
    refine twp_whileK (fun i => ([(6, .msl 0 1 0 (flatTo xss i).length), (27, .d (.int .i64 ((i : Nat) : Int)))] : Fr)) (fun i => ([(0, .flat 3 1 ((flatTo xss i).map (D.int .i64)))] : List (Nat × Blk))) (fun i => i ≤ xss.length) (fun i => xss.length - i) [6, 27] [25, 26] [0] 0 (by decide) (fun i hi => absurd hi (Nat.not_lt_zero i)) (Nat.zero_le _) (sub_d rfl (sub_d rfl .nil)) rfl (by rw [flat_zero]; rfl) (blk_flat rfl (blk_nil rfl)) (by rw [flat_zero]; rfl) ?_
    rintro i hok
    refine twp_norm [6, 27, 25, 26] (sub_msl rfl (sub_d rfl (sub_d rfl (sub_d rfl .nil)))) (blk_flat rfl (blk_nil rfl)) ?_
    refine twp_rseq ?_
    refine s_rd _ rfl (cmp_int rfl rfl rfl rfl) ?_
    refine tops_nil ?_
    refine twp_norm [6, 25, 26, 27, 28] (sub_msl rfl (sub_d rfl (sub_d rfl (sub_d rfl (sub_d rfl .nil))))) (blk_flat rfl (blk_nil rfl)) ?_
    refine twp_seq ?_
    refine twp_cond _ rfl (fun hlt => ?_) (fun hlt => ?_)
    · have hlt : i < xss.length := by simpa using hlt
      obtain ⟨x, hx⟩ : ∃ x, (xss)[i]? = some x := ⟨_, List.getElem?_eq_getElem (by first | exact hlt | omega | (simp; omega))⟩
      have hs := flat_succ hx
      have hle := flat_le xss (i + 1)
      have hsl : (flatTo xss (i + 1)).length = (flatTo xss i).length + x.length := by rw [hs]; simp
      refine twp_skip ?_
      refine way_then ?_
      refine twp_norm [6, 25, 26, 27] (sub_msl rfl (sub_d rfl (sub_d rfl (sub_d rfl .nil)))) (blk_flat rfl (blk_nil rfl)) ?_
      refine twp_seq ?_
      refine twp_block ?_
      refine twp_rseq ?_
      refine s_rd _ rfl (index_sl rfl sel82 rfl rfl (idx_map hx)) ?_
      refine s_rd _ rfl (load_ptr rfl lay23 rfl rfl) ?_
      refine s_rd _ rfl (mv_d (.inr rfl) rfl) ?_
      refine tops_nil ?_
      refine twp_norm [6, 8, 25, 26, 27] (sub_msl rfl (sub_d rfl (sub_d rfl (sub_d rfl (sub_d rfl .nil))))) (blk_flat rfl (blk_nil rfl)) ?_
      refine twp_region ?_
      refine s_rd _ rfl (mv_msl (.inl rfl) rfl) ?_
      refine s_rd _ rfl (mv_d (.inl rfl) rfl) ?_
      refine s_append (m := (flatTo xss (i + 1)).length) (ds := x.map (D.int .i64)) (es' := (flatTo xss (i + 1)).map (D.int .i64)) rfl sel23 zero3 rfl rfl rfl (by simp) (fun h => absurd h (Nat.not_lt_zero _)) rfl ⟨rfl, (by first | rfl | (simp [List.map_take, List.map_drop]; done) | (rw [← List.map_drop, List.take_of_length_le (by simp)]))⟩ (by rw [hs]; simp) (by simp; omega) (by omega) (by omega) rfl rfl ?_
      refine s_rd _ rfl (mv_msl (.inr rfl) rfl) ?_
      refine tops_nil ?_
      refine way_block ?_
      refine way_then ?_
      refine twp_norm [6, 25, 26, 27] (sub_msl rfl (sub_d rfl (sub_d rfl (sub_d rfl .nil)))) (blk_flat rfl (blk_nil rfl)) ?_
      refine twp_region ?_
      refine s_rd _ rfl (arith_ok rfl rfl rfl rfl (by first | omega | (constructor <;> omega))) ?_
      refine s_rd _ rfl (mv_d (.inl rfl) rfl) ?_
      refine tops_nil ?_
      refine way_then ?_
      exact ⟨(i + 1), [0], by decide, (fun i hi => absurd hi (Nat.not_lt_zero i)), (by omega), (by omega), rfl⟩
    · have hge : ¬ i < xss.length := by simpa using hlt
      have hi : i = xss.length := by omega
      have hall := flat_all hge
      refine twp_exit ?_
      refine way_thenExit ?_
      refine way_thenExit ?_
      refine way_here ?_
      refine way_then ?_
      refine twp_norm [6] (sub_msl rfl .nil) (blk_flat rfl (blk_nil rfl)) ?_
      refine twp_rseq ?_
      refine s_rd _ rfl (mv_msl (.inl rfl) rfl) ?_
      refine s_rd _ rfl (mv_msl (.inr rfl) rfl) ?_
      refine tops_nil ?_
      refine twp_norm [2] (sub_msl rfl .nil) (blk_flat rfl (blk_nil rfl)) ?_
      refine twp_ret ?_
      rw [hall]
      exact ⟨_, [0], res rfl, by decide, fun i hi => absurd hi (Nat.not_lt_zero i), rfl, rfl⟩

theorem slices_Concat_int_c {p0 : List (List Int)} {r : List Int} (hm : slices_Concat_int p0 = some r) : RetN Try.prog 49 [.sl 1 (p0.map (fun l => D.sl 1 (l.map (D.int .i64))))] (.sl 1 (r.map (D.int .i64))) := by
  unfold slices_Concat_int at hm
  obtain ⟨g, hm⟩ := guard_inv hm
  obtain rfl := Option.some.inj hm
  exact .flat (slices_Concat_intConcat p0 g.1 g.2 (fun _ => false)) (by rw [List.length_map]) (fun e he => by obtain ⟨x, _, rfl⟩ := List.mem_map.1 he; rfl)

theorem table_routeRight_c {p0 : Table} {p1 : Route} {r : Bool} (hm : table_routeRight p0 p1 = some r) : RetN Try.prog 62 [p0.enc, p1.enc] (.bool (r)) := by
  refine .unit (ret_bodyS callB62 Try.func62 rfl Try.ntmps62 rfl rfl (fun wX gX => ?_)) rfl
  unfold table_routeRight at hm
  refine w_norm [0, 1] rfl rfl ?_
  refine twp_rseq ?_
  refine s_bx 0 rfl rfl rfl ?_
  refine s_bx 1 rfl rfl rfl ?_
  refine s_a tab_ok rfl ?_
  refine tops_nil ?_
  refine w_norm [2, 3] rfl rfl ?_
  refine twp_seq ?_
  refine w_joinM hm (fun x1 => ([(26, .d (.bool (x1)))] : Fr)) (fun x1 => ([] : List (Nat × Blk))) [26] [2, 3] rfl (fun z2 hm => ?_) (fun x1 hm => ?_)
  · refine twp_region ?_
    iterate 4 (refine s_a tab_ok rfl ?_)
    obtain ⟨r3, hr3, hm⟩ := bind_inv hm
    refine s_x rfl rfl (rd_callRN rfl rfl (snaps_cons (.d _) (snaps_cons (.d _) snaps_nil)) (table_within_c hr3)) ?_
    refine s_a tab_ok rfl ?_
    refine s_b tab_ok rfl (fun q4 hq4 => ?_)
    cases q4
    · replace hm := iteB_F hq4 hm
      iterate 3 (refine s_a tab_ok rfl ?_)
      refine s_b tab_ok rfl (fun q5 hq5 => ?_)
      cases q5
      · replace hm := iteN_F hq5 hm
        iterate 8 (refine s_a tab_ok rfl ?_)
        refine tops_nil ?_
        refine way_then ?_
        exact ⟨_, [0, 1], (Option.some.inj hm).symm, rfl, k0, rfl⟩
      · replace hm := iteN_T hq5 hm
        iterate 4 (refine s_a tab_ok rfl ?_)
        obtain ⟨r6, hr6, hm⟩ := bind_inv hm
        refine s_x rfl rfl (rd_callRN rfl rfl (snaps_cons (.d _) (snaps_cons (.d _) snaps_nil)) (table_within_c hr6)) ?_
        iterate 3 (refine s_a tab_ok rfl ?_)
        refine tops_nil ?_
        refine way_then ?_
        exact ⟨_, [0, 1], (Option.some.inj hm).symm, rfl, k0, rfl⟩
    · replace hm := iteB_T hq4 hm
      iterate 12 (refine s_a tab_ok rfl ?_)
      refine tops_nil ?_
      refine way_then ?_
      exact ⟨_, [0, 1], (Option.some.inj hm).symm, rfl, k0, rfl⟩
  · refine w_norm [2, 3, 26] rfl rfl ?_
    refine twp_cond _ rfl (fun h7 => ?_) (fun h7 => ?_)
    · replace hm := iteB_T h7 hm
      refine twp_rseq ?_
      refine s_a tab_ok rfl ?_
      refine tops_nil ?_
      refine w_norm [4] rfl rfl ?_
      refine twp_ret ?_
      refine way_thenRet ?_
      obtain rfl := Option.some.inj hm
      exact EndsS.one _ rfl (.d _) (.refl _)
    · replace hm := iteB_F h7 hm
      refine twp_skip ?_
      refine way_then ?_
      refine w_norm [2, 3] rfl rfl ?_
      refine twp_seq ?_
      refine w_cut [(42, .d (.bool (((decide ((p1.path.length : Int) < (1 : Int))) || ((decide ((12 : Int) < (p1.path.length : Int))) || (decide ((p1.sections.length : Int) = (0 : Int))))))))] [42] [2, 3] rfl ?_ ?_
      · refine twp_region ?_
        iterate 2 (refine s_a tab_ok rfl ?_)
        refine s_x rfl rfl (x_len tab_ok rfl rfl rfl) ?_
        refine s_a tab_ok rfl ?_
        refine s_b tab_ok rfl (fun q8 hq8 => ?_)
        cases q8
        · iterate 2 (refine s_a tab_ok rfl ?_)
          refine s_x rfl rfl (x_len tab_ok rfl rfl rfl) ?_
          iterate 2 (refine s_a tab_ok rfl ?_)
          refine s_b tab_ok rfl (fun q9 hq9 => ?_)
          cases q9
          · iterate 2 (refine s_a tab_ok rfl ?_)
            refine s_x rfl rfl (x_len tab_ok rfl rfl rfl) ?_
            iterate 2 (refine s_a tab_ok rfl ?_)
            refine tops_nil ?_
            refine way_then ?_
            exact ⟨[0, 1], rfl, k0, st_eq (fr_cons (av_bool (by simp [hq8, hq9])) rfl) rfl⟩
          · iterate 5 (refine s_a tab_ok rfl ?_)
            refine tops_nil ?_
            refine way_then ?_
            exact ⟨[0, 1], rfl, k0, st_eq (fr_cons (av_bool (by simp [hq8, hq9])) rfl) rfl⟩
        · iterate 11 (refine s_a tab_ok rfl ?_)
          refine tops_nil ?_
          refine way_then ?_
          exact ⟨[0, 1], rfl, k0, st_eq (fr_cons (av_bool (by simp [hq8])) rfl) rfl⟩
      · refine w_norm [2, 3, 42] rfl rfl ?_
        refine twp_cond _ rfl (fun h10 => ?_) (fun h10 => ?_)
        · replace hm := iteB_T h10 hm
          refine twp_rseq ?_
          refine s_a tab_ok rfl ?_
          refine tops_nil ?_
          refine w_norm [4] rfl rfl ?_
          refine twp_ret ?_
          refine way_thenRet ?_
          obtain rfl := Option.some.inj hm
          exact EndsS.one _ rfl (.d _) (.refl _)
        · replace hm := iteB_F h10 hm
          refine twp_skip ?_
          refine way_then ?_
          refine w_norm [2, 3] rfl rfl ?_
          refine twp_rseq ?_
          refine s_ala (f := D.bool) (x := false) 2 23 rfl rfl zero90 rfl rfl rfl ?_
          refine tops_nil ?_
          refine w_norm [2, 3, 5] rfl rfl ?_
          refine w_joinS hm (fun b11 => ([] : Fr)) (fun b11 => ([(2, .flat 90 1 (b11.map D.bool))] : List (Nat × Blk))) [] [2, 3] rfl (fun z12 hm hz12 => ?_) (fun b11 hm => ?_)
          · refine twp_rseq ?_
            iterate 4 (refine s_a tab_ok rfl ?_)
            refine s_x rfl rfl (x_lit [.tmp 44, .tmp 46] tab_ok rfl rfl zero23 rfl rfl rfl rfl rfl) ?_
            obtain ⟨r13, hr13, hm⟩ := bind_inv hm
            refine s_x rfl rfl (rd_callRN rfl rfl (snaps_cons (.d _) snaps_nil) (slices_Concat_int_c hr13)) ?_
            refine s_x rfl rfl (x_len tab_ok rfl rfl rfl) ?_
            refine s_a tab_ok rfl ?_
            refine tops_nil ?_
            refine w_norm [2, 3, 5, 48, 49, 50] rfl rfl ?_
            refine twp_block ?_
            refine w_loop hm (fun (x17, b18) => ([(50, .d (.int .i64 x17))] : Fr)) (fun (x17, b18) => ([(2, .flat 90 1 (b18.map D.bool))] : List (Nat × Blk))) [50] [2, 3, 5, 48, 49] [0, 1, 2] rfl k0 rfl rfl rfl rfl rfl (fun s z19 hm hz19 => ?_)
            obtain ⟨x17, b18⟩ := s
            refine w_norm [2, 3, 5, 48, 49, 50] rfl rfl ?_
            refine twp_rseq ?_
            refine s_a tab_ok rfl ?_
            refine tops_nil ?_
            refine w_norm [2, 3, 5, 48, 49, 50, 51] rfl rfl ?_
            refine twp_seq ?_
            refine twp_cond _ rfl (fun h20 => ?_) (fun h20 => ?_)
            · replace hm := ite_T h20 hm
              refine twp_skip ?_
              refine way_then ?_
              refine w_norm [2, 3, 5, 48, 49, 50] rfl rfl ?_
              refine twp_seq ?_
              refine twp_block ?_
              refine twp_rseq ?_
              obtain ⟨e21, he21, hm⟩ := get_inv hm
              refine s_x rfl rfl (x_ix tab_ok rfl rfl rfl rfl he21) ?_
              iterate 2 (refine s_a tab_ok rfl ?_)
              refine tops_nil ?_
              refine w_norm [2, 3, 5, 7, 48, 49, 50] rfl rfl ?_
              refine twp_seq ?_
              refine w_joinM hm (fun x22 => ([(63, .d (.bool (x22)))] : Fr)) (fun x22 => ([] : List (Nat × Blk))) [63] [2, 3, 5, 7, 48, 49, 50] rfl (fun z23 hm => ?_) (fun x22 hm => ?_)
              · refine twp_region ?_
                iterate 3 (refine s_a tab_ok rfl ?_)
                obtain ⟨r24, hr24, hm⟩ := bind_inv hm
                refine s_x rfl rfl (rd_callRN rfl rfl (snaps_cons (.d _) (snaps_cons (.d _) snaps_nil)) (table_within_c hr24)) ?_
                refine s_a tab_ok rfl ?_
                refine s_b tab_ok rfl (fun q25 hq25 => ?_)
                cases q25
                · replace hm := iteB_F hq25 hm
                  refine s_a tab_ok rfl ?_
                  obtain ⟨g27, hm⟩ := guard_inv hm
                  obtain ⟨e26, he26, hm⟩ := get_inv hm
                  refine s_x rfl rfl (x_ixa rfl asel90 rfl rfl he26 g27) ?_
                  refine s_x rfl rfl (x_ldo tab_ok rfl rfl rfl rfl he26.2 rfl) ?_
                  refine s_a tab_ok rfl ?_
                  refine tops_nil ?_
                  refine way_then ?_
                  exact ⟨_, [0, 1, 2], (Option.some.inj hm).symm, rfl, k0, rfl⟩
                · replace hm := iteB_T hq25 hm
                  iterate 4 (refine s_a tab_ok rfl ?_)
                  refine tops_nil ?_
                  refine way_then ?_
                  exact ⟨_, [0, 1, 2], (Option.some.inj hm).symm, rfl, k0, rfl⟩
              · refine w_norm [2, 3, 5, 7, 48, 49, 50, 63] rfl rfl ?_
                refine twp_cond _ rfl (fun h28 => ?_) (fun h28 => ?_)
                · replace hm := iteB_T h28 hm
                  refine twp_rseq ?_
                  refine s_a tab_ok rfl ?_
                  refine tops_nil ?_
                  refine w_norm [4] rfl rfl ?_
                  refine twp_ret ?_
                  refine way_thenRet ?_
                  refine way_blockRet ?_
                  refine way_thenRet ?_
                  obtain ⟨v29, hm, hz⟩ := inr_inv hm
                  rw [hz19 _ hz] at hm
                  refine way_thenRet ?_
                  refine way_blockRet ?_
                  obtain ⟨v30, hm, hz⟩ := inr_inv hm
                  rw [hz12 _ hz] at hm
                  refine way_thenRet ?_
                  obtain rfl := Option.some.inj hm
                  exact EndsS.one _ rfl (.d _) (.refl _)
                · replace hm := iteB_F h28 hm
                  refine twp_skip ?_
                  refine way_then ?_
                  refine w_norm [2, 3, 5, 7, 48, 49, 50] rfl rfl ?_
                  refine twp_region ?_
                  refine s_a tab_ok rfl ?_
                  obtain ⟨g32, hm⟩ := guard_inv hm
                  obtain ⟨e31, he31, hm⟩ := get_inv hm
                  refine s_x rfl rfl (x_ixa rfl asel90 rfl rfl he31 g32) ?_
                  refine s_sto (x' := true) tab_ok rfl rfl rfl rfl rfl he31.2 rfl rfl rfl ?_
                  refine tops_nil ?_
                  refine way_block ?_
                  refine way_then ?_
                  refine w_norm [2, 3, 5, 48, 49, 50] rfl rfl ?_
                  refine twp_region ?_
                  obtain ⟨g33, hm⟩ := guard_inv hm
                  refine s_x rfl rfl (x_ar rfl rfl rfl rfl g33) ?_
                  refine s_a tab_ok rfl ?_
                  refine tops_nil ?_
                  refine way_then ?_
                  exact ⟨_, [0, 1, 2], (Option.some.inj hm).symm, rfl, k0, rfl⟩
            · replace hm := ite_F h20 hm
              refine twp_exit ?_
              refine way_thenExit ?_
              obtain ⟨v34, hm, hz⟩ := inr_inv hm
              rw [hz19 _ hz] at hm
              refine way_thenExit ?_
              refine way_here ?_
              refine way_then ?_
              exact ⟨_, [0, 1, 2], (Option.some.inj hm).symm, rfl, k0, rfl⟩
          · refine w_norm [2, 3] rfl rfl ?_
            refine w_joinM hm (fun x35 => ([(4, .d (.bool (x35)))] : Fr)) (fun x35 => ([] : List (Nat × Blk))) [4] [] rfl (fun z36 hm => ?_) (fun x35 hm => ?_)
            · refine twp_region ?_
              iterate 4 (refine s_a tab_ok rfl ?_)
              obtain ⟨r37, hr37, hm⟩ := bind_inv hm
              refine s_x rfl rfl (rd_callRN rfl rfl (snaps_cons (.d _) (snaps_cons (.d _) snaps_nil)) (table_within_c hr37)) ?_
              refine s_b tab_ok rfl (fun q38 hq38 => ?_)
              cases q38
              · replace hm := iteB_F hq38 hm
                iterate 5 (refine s_a tab_ok rfl ?_)
                refine tops_nil ?_
                refine way_then ?_
                exact ⟨_, [0, 1, 2], (Option.some.inj hm).symm, rfl, k0, rfl⟩
              · replace hm := iteB_T hq38 hm
                iterate 5 (refine s_a tab_ok rfl ?_)
                refine tops_nil ?_
                refine way_then ?_
                exact ⟨_, [0, 1, 2], (Option.some.inj hm).symm, rfl, k0, rfl⟩
            · refine w_norm [4] rfl rfl ?_
              refine twp_ret ?_
              obtain rfl := Option.some.inj hm
              exact EndsS.one _ rfl (.d _) (.refl _)

theorem slices_Index_int_c {p0 : (List Int)} {p1 : Int} {r : Int} (hm : slices_Index_int p0 p1 = some r) : RetN Try.prog 48 [.sl 1 (p0.map (D.int .i64)), .int .i64 p1] (.int .i64 r) := by
  refine .unit (ret_bodyS callB48 Try.func48 rfl Try.ntmps48 rfl rfl (fun wX gX => ?_)) rfl
  unfold slices_Index_int at hm
  refine w_norm [0, 1] rfl rfl ?_
  refine twp_rseq ?_
  refine s_a tab_ok rfl ?_
  refine tops_nil ?_
  refine w_norm [0, 1] rfl rfl ?_
  refine w_joinS hm (fun _ => ([] : Fr)) (fun _ => ([] : List (Nat × Blk))) [] [] rfl (fun z1 hm hz1 => ?_) (fun j hm => ?_)
  · refine twp_rseq ?_
    refine s_a tab_ok rfl ?_
    refine s_x rfl rfl (x_len tab_ok rfl rfl rfl) ?_
    refine s_a tab_ok rfl ?_
    refine tops_nil ?_
    refine w_norm [0, 1, 7, 8] rfl rfl ?_
    refine twp_block ?_
    refine w_loop hm (fun x3 => ([(8, .d (.int .i64 x3))] : Fr)) (fun x3 => ([] : List (Nat × Blk))) [8] [0, 1, 7] [] rfl k0 rfl rfl rfl rfl rfl (fun x3 z4 hm hz4 => ?_)
    refine w_norm [0, 1, 7, 8] rfl rfl ?_
    refine twp_rseq ?_
    refine s_a tab_ok rfl ?_
    refine tops_nil ?_
    refine w_norm [0, 1, 7, 8, 9] rfl rfl ?_
    refine twp_seq ?_
    refine twp_cond _ rfl (fun h5 => ?_) (fun h5 => ?_)
    · replace hm := ite_T h5 hm
      refine twp_skip ?_
      refine way_then ?_
      refine w_norm [0, 1, 7, 8] rfl rfl ?_
      refine twp_seq ?_
      refine twp_block ?_
      refine twp_rseq ?_
      iterate 2 (refine s_a tab_ok rfl ?_)
      refine tops_nil ?_
      refine w_norm [0, 1, 5, 7, 8] rfl rfl ?_
      refine twp_rseq ?_
      iterate 3 (refine s_a tab_ok rfl ?_)
      obtain ⟨e6, he6, hm⟩ := get_inv hm
      refine s_x rfl rfl (x_ix tab_ok rfl rfl rfl rfl he6) ?_
      iterate 2 (refine s_a tab_ok rfl ?_)
      refine tops_nil ?_
      refine w_norm [0, 1, 5, 7, 8, 16] rfl rfl ?_
      refine twp_cond _ rfl (fun h7 => ?_) (fun h7 => ?_)
      · replace hm := ite_T h7 hm
        refine twp_rseq ?_
        iterate 2 (refine s_a tab_ok rfl ?_)
        refine tops_nil ?_
        refine w_norm [4] rfl rfl ?_
        refine twp_ret ?_
        refine way_blockRet ?_
        refine way_thenRet ?_
        obtain ⟨v8, hm, hz⟩ := inr_inv hm
        rw [hz4 _ hz] at hm
        refine way_thenRet ?_
        refine way_blockRet ?_
        obtain ⟨v9, hm, hz⟩ := inr_inv hm
        rw [hz1 _ hz] at hm
        refine way_thenRet ?_
        obtain rfl := Option.some.inj hm
        exact EndsS.one _ rfl (.d _) (.refl _)
      · replace hm := ite_F h7 hm
        refine twp_skip ?_
        refine way_block ?_
        refine way_then ?_
        refine w_norm [0, 1, 7, 8] rfl rfl ?_
        refine twp_region ?_
        obtain ⟨g10, hm⟩ := guard_inv hm
        refine s_x rfl rfl (x_ar rfl rfl rfl rfl g10) ?_
        refine s_a tab_ok rfl ?_
        refine tops_nil ?_
        refine way_then ?_
        exact ⟨_, [], (Option.some.inj hm).symm, rfl, k0, rfl⟩
    · replace hm := ite_F h5 hm
      refine twp_exit ?_
      refine way_thenExit ?_
      obtain ⟨v11, hm, hz⟩ := inr_inv hm
      rw [hz4 _ hz] at hm
      refine way_thenExit ?_
      refine way_here ?_
      refine way_then ?_
      exact ⟨_, [], (Option.some.inj hm).symm, rfl, k0, rfl⟩
  · refine w_norm [] rfl rfl ?_
    refine twp_rseq ?_
    refine s_a tab_ok rfl ?_
    refine tops_nil ?_
    refine w_norm [4] rfl rfl ?_
    refine twp_ret ?_
    obtain rfl := Option.some.inj hm
    exact EndsS.one _ rfl (.d _) (.refl _)

theorem table_Index_c {p0 : Table} {p1 : Int} {r : Int} (hm : table_Index p0 p1 = some r) : RetN Try.prog 51 [p0.enc, .int .i64 p1] (.int .i64 r) := by
  refine .unit (ret_bodyS callB51 Try.func51 rfl Try.ntmps51 rfl rfl (fun wX gX => ?_)) rfl
  unfold table_Index at hm
  refine w_norm [0, 1] rfl rfl ?_
  refine twp_rseq ?_
  refine s_bx 0 rfl rfl rfl ?_
  refine s_a tab_ok rfl ?_
  refine tops_nil ?_
  refine w_norm [1, 2] rfl rfl ?_
  refine twp_rseq ?_
  iterate 3 (refine s_a tab_ok rfl ?_)
  obtain ⟨r1, hr1, hm⟩ := bind_inv hm
  refine s_x rfl rfl (rd_callRN rfl rfl (snaps_cons (.d _) (snaps_cons (.d _) snaps_nil)) (slices_Index_int_c hr1)) ?_
  refine s_a tab_ok rfl ?_
  refine tops_nil ?_
  refine w_norm [4] rfl rfl ?_
  refine twp_ret ?_
  obtain rfl := Option.some.inj hm
  exact EndsS.one _ rfl (.d _) (.refl _)

theorem table_settingsRight_c {p0 : Table} {p1 : (List Setting)} {r : Bool} (hm : table_settingsRight p0 p1 = some r) : RetN Try.prog 63 [p0.enc, .sl 2 (p1.map Setting.enc)] (.bool (r)) := by
  refine .unit (ret_bodyS callB63 Try.func63 rfl Try.ntmps63 rfl rfl (fun wX gX => ?_)) rfl
  unfold table_settingsRight at hm
  refine w_norm [0, 1] rfl rfl ?_
  refine twp_rseq ?_
  refine s_bx 0 rfl rfl rfl ?_
  refine s_a tab_ok rfl ?_
  refine tops_nil ?_
  refine w_norm [1, 2] rfl rfl ?_
  refine w_joinS hm (fun _ => ([] : Fr)) (fun _ => ([] : List (Nat × Blk))) [] [] rfl (fun z1 hm hz1 => ?_) (fun j hm => ?_)
  · refine twp_rseq ?_
    refine s_a tab_ok rfl ?_
    refine s_x rfl rfl (x_len tab_ok rfl rfl rfl) ?_
    refine s_a tab_ok rfl ?_
    refine tops_nil ?_
    refine w_norm [1, 2, 7, 8, 9] rfl rfl ?_
    refine twp_block ?_
    refine w_loop hm (fun x3 => ([(9, .d (.int .i64 x3))] : Fr)) (fun x3 => ([] : List (Nat × Blk))) [9] [1, 2, 7, 8] [0] rfl k0 rfl rfl rfl rfl rfl (fun x3 z4 hm hz4 => ?_)
    refine w_norm [1, 2, 7, 8, 9] rfl rfl ?_
    refine twp_rseq ?_
    refine s_a tab_ok rfl ?_
    refine tops_nil ?_
    refine w_norm [1, 2, 7, 8, 9, 10] rfl rfl ?_
    refine twp_seq ?_
    refine twp_cond _ rfl (fun h5 => ?_) (fun h5 => ?_)
    · replace hm := ite_T h5 hm
      refine twp_skip ?_
      refine way_then ?_
      refine w_norm [1, 2, 7, 8, 9] rfl rfl ?_
      refine twp_seq ?_
      refine twp_block ?_
      refine twp_rseq ?_
      refine s_a tab_ok rfl ?_
      obtain ⟨e6, he6, hm⟩ := get_inv hm
      refine s_x rfl rfl (x_ix tab_ok rfl rfl rfl rfl he6) ?_
      refine s_a tab_ok rfl ?_
      refine s_al 1 rfl rfl zero43 rfl ?_
      iterate 2 (refine s_a tab_ok rfl ?_)
      refine tops_nil ?_
      refine w_norm [1, 2, 5, 6, 7, 8, 9] rfl rfl ?_
      refine twp_seq ?_
      refine w_joinM hm (fun x7 => ([(33, .d (.bool (x7)))] : Fr)) (fun x7 => ([] : List (Nat × Blk))) [33] [1, 2, 6, 7, 8, 9] rfl (fun z8 hm => ?_) (fun x7 hm => ?_)
      · refine twp_draw follows  ?_
        iterate 2 (refine d_a [0, 1] tab_ok rfl ?_)
        refine d_b [0, 1] tab_ok rfl (fun q9 hq9 => ?_)
        cases q9
        · replace hm := ite_F hq9 hm
          iterate 14 (refine d_a [0, 1] tab_ok rfl ?_)
          obtain ⟨r10, hr10, hm⟩ := bind_inv hm
          refine d_x [0, 1] rfl rfl (rd_callRN rfl rfl (snaps_cons (.d _) (snaps_cons (.d _) snaps_nil)) (table_Index_c hr10)) ?_
          iterate 2 (refine d_a [0, 1] tab_ok rfl ?_)
          refine d_tail ?_ (by kernel_rfl)
          refine tops_nil ?_
          refine way_then ?_
          exact ⟨_, [0, 1], (Option.some.inj hm).symm, rfl, k0, rfl⟩
        · replace hm := ite_T hq9 hm
          iterate 4 (refine d_a [0, 1] tab_ok rfl ?_)
          obtain ⟨g11, hm⟩ := guard_inv hm
          refine d_x [0, 1] rfl rfl (x_ar rfl rfl rfl rfl g11) ?_
          obtain ⟨e12, he12, hm⟩ := get_inv hm
          refine d_x [0, 1] rfl rfl (x_ix tab_ok rfl rfl rfl rfl he12) ?_
          iterate 4 (refine d_a [0, 1] tab_ok rfl ?_)
          refine d_b [0, 1] tab_ok rfl (fun q13 hq13 => ?_)
          cases q13
          · replace hm := ite_F hq13 hm
            iterate 3 (refine d_a [0, 1] tab_ok rfl ?_)
            obtain ⟨r14, hr14, hm⟩ := bind_inv hm
            refine d_x [0, 1] rfl rfl (rd_callRN rfl rfl (snaps_cons (.d _) (snaps_cons (.d _) snaps_nil)) (table_Index_c hr14)) ?_
            iterate 2 (refine d_a [0, 1] tab_ok rfl ?_)
            refine d_tail ?_ (by kernel_rfl)
            refine tops_nil ?_
            refine way_then ?_
            exact ⟨_, [0, 1], (Option.some.inj hm).symm, rfl, k0, rfl⟩
          · replace hm := ite_T hq13 hm
            iterate 6 (refine d_a [0, 1] tab_ok rfl ?_)
            refine d_tail ?_ (by kernel_rfl)
            refine tops_nil ?_
            refine way_then ?_
            exact ⟨_, [0, 1], (Option.some.inj hm).symm, rfl, k0, rfl⟩
      · refine w_norm [1, 2, 6, 7, 8, 9, 33] rfl rfl ?_
        refine twp_cond _ rfl (fun h15 => ?_) (fun h15 => ?_)
        · replace hm := iteB_T h15 hm
          refine twp_rseq ?_
          refine s_a tab_ok rfl ?_
          refine tops_nil ?_
          refine w_norm [4] rfl rfl ?_
          refine twp_ret ?_
          refine way_thenRet ?_
          refine way_blockRet ?_
          refine way_thenRet ?_
          obtain ⟨v16, hm, hz⟩ := inr_inv hm
          rw [hz4 _ hz] at hm
          refine way_thenRet ?_
          refine way_blockRet ?_
          obtain ⟨v17, hm, hz⟩ := inr_inv hm
          rw [hz1 _ hz] at hm
          refine way_thenRet ?_
          obtain rfl := Option.some.inj hm
          exact EndsS.one _ rfl (.d _) (.refl _)
        · replace hm := iteB_F h15 hm
          refine twp_skip ?_
          refine way_then ?_
          refine w_norm [1, 2, 6, 7, 8, 9] rfl rfl ?_
          refine w_cut [(41, .d (.bool (((!(decide (e6.pos = (1 : Int)))) && (!(decide (e6.pos = (2 : Int))))))))] [41] [1, 2, 7, 8, 9] rfl ?_ ?_
          · refine twp_region ?_
            iterate 3 (refine s_a tab_ok rfl ?_)
            refine s_b tab_ok rfl (fun q18 hq18 => ?_)
            cases q18
            · iterate 4 (refine s_a tab_ok rfl ?_)
              refine tops_nil ?_
              refine way_then ?_
              exact ⟨[0, 1], rfl, k0, st_eq (fr_cons (av_bool (by simp [hq18])) rfl) rfl⟩
            · iterate 4 (refine s_a tab_ok rfl ?_)
              refine tops_nil ?_
              refine way_then ?_
              exact ⟨[0, 1], rfl, k0, st_eq (fr_cons (av_bool (by simp [hq18])) rfl) rfl⟩
          · refine w_norm [1, 2, 7, 8, 9, 41] rfl rfl ?_
            refine twp_cond _ rfl (fun h19 => ?_) (fun h19 => ?_)
            · replace hm := iteB_T h19 hm
              refine twp_rseq ?_
              refine s_a tab_ok rfl ?_
              refine tops_nil ?_
              refine w_norm [4] rfl rfl ?_
              refine twp_ret ?_
              refine way_blockRet ?_
              refine way_thenRet ?_
              obtain ⟨v20, hm, hz⟩ := inr_inv hm
              rw [hz4 _ hz] at hm
              refine way_thenRet ?_
              refine way_blockRet ?_
              obtain ⟨v21, hm, hz⟩ := inr_inv hm
              rw [hz1 _ hz] at hm
              refine way_thenRet ?_
              obtain rfl := Option.some.inj hm
              exact EndsS.one _ rfl (.d _) (.refl _)
            · replace hm := iteB_F h19 hm
              refine twp_skip ?_
              refine way_block ?_
              refine way_then ?_
              refine w_norm [1, 2, 7, 8, 9] rfl rfl ?_
              refine twp_region ?_
              obtain ⟨g22, hm⟩ := guard_inv hm
              refine s_x rfl rfl (x_ar rfl rfl rfl rfl g22) ?_
              refine s_a tab_ok rfl ?_
              refine tops_nil ?_
              refine way_then ?_
              exact ⟨_, [0], (Option.some.inj hm).symm, rfl, k0, rfl⟩
    · replace hm := ite_F h5 hm
      refine twp_exit ?_
      refine way_thenExit ?_
      obtain ⟨v23, hm, hz⟩ := inr_inv hm
      rw [hz4 _ hz] at hm
      refine way_thenExit ?_
      refine way_here ?_
      refine way_then ?_
      exact ⟨_, [0], (Option.some.inj hm).symm, rfl, k0, rfl⟩
  · refine w_norm [] rfl rfl ?_
    refine twp_rseq ?_
    refine s_a tab_ok rfl ?_
    refine tops_nil ?_
    refine w_norm [4] rfl rfl ?_
    refine twp_ret ?_
    obtain rfl := Option.some.inj hm
    exact EndsS.one _ rfl (.d _) (.refl _)

theorem conflict_Agree_c {p0 : (List Setting)} {p1 : (List Setting)} {r : Bool} (hm : conflict_Agree p0 p1 = some r) : RetN Try.prog 64 [.sl 2 (p0.map Setting.enc), .sl 2 (p1.map Setting.enc)] (.bool (r)) := by
  refine .unit (ret_bodyS callB64 Try.func64 rfl Try.ntmps64 rfl rfl (fun wX gX => ?_)) rfl
  unfold conflict_Agree at hm
  refine w_norm [0, 1] rfl rfl ?_
  refine twp_rseq ?_
  refine s_a tab_ok rfl ?_
  refine tops_nil ?_
  refine w_norm [0, 1] rfl rfl ?_
  refine w_joinS hm (fun _ => ([] : Fr)) (fun _ => ([] : List (Nat × Blk))) [] [] rfl (fun z1 hm hz1 => ?_) (fun j hm => ?_)
  · refine twp_rseq ?_
    refine s_a tab_ok rfl ?_
    refine s_x rfl rfl (x_len tab_ok rfl rfl rfl) ?_
    refine s_a tab_ok rfl ?_
    refine tops_nil ?_
    refine w_norm [1, 9, 10, 11] rfl rfl ?_
    refine twp_block ?_
    refine w_loop hm (fun x3 => ([(11, .d (.int .i64 x3))] : Fr)) (fun x3 => ([] : List (Nat × Blk))) [11] [1, 9, 10] [] rfl k0 rfl rfl rfl rfl rfl (fun x3 z4 hm hz4 => ?_)
    refine w_norm [1, 9, 10, 11] rfl rfl ?_
    refine twp_rseq ?_
    refine s_a tab_ok rfl ?_
    refine tops_nil ?_
    refine w_norm [1, 9, 10, 11, 12] rfl rfl ?_
    refine twp_seq ?_
    refine twp_cond _ rfl (fun h5 => ?_) (fun h5 => ?_)
    · replace hm := ite_T h5 hm
      refine twp_skip ?_
      refine way_then ?_
      refine w_norm [1, 9, 10, 11] rfl rfl ?_
      refine w_joinS hm (fun _ => ([] : Fr)) (fun _ => ([] : List (Nat × Blk))) [] [1, 9, 10, 11] rfl (fun z6 hm hz6 => ?_) (fun j hm => ?_)
      · refine twp_block ?_
        refine twp_rseq ?_
        obtain ⟨e7, he7, hm⟩ := get_inv hm
        refine s_x rfl rfl (x_ix tab_ok rfl rfl rfl rfl he7) ?_
        refine s_a tab_ok rfl ?_
        refine s_al 0 rfl rfl zero43 rfl ?_
        refine s_a tab_ok rfl ?_
        refine tops_nil ?_
        refine w_norm [1, 6, 9, 10, 11] rfl rfl ?_
        refine twp_rseq ?_
        refine s_a tab_ok rfl ?_
        refine s_x rfl rfl (x_len tab_ok rfl rfl rfl) ?_
        refine s_a tab_ok rfl ?_
        refine tops_nil ?_
        refine w_norm [1, 6, 9, 10, 11, 15, 16, 17] rfl rfl ?_
        refine twp_block ?_
        refine w_loop hm (fun x9 => ([(17, .d (.int .i64 x9))] : Fr)) (fun x9 => ([] : List (Nat × Blk))) [17] [1, 6, 9, 10, 11, 15, 16] [0] rfl k0 rfl rfl rfl rfl rfl (fun x9 z10 hm hz10 => ?_)
        refine w_norm [1, 6, 9, 10, 11, 15, 16, 17] rfl rfl ?_
        refine twp_rseq ?_
        refine s_a tab_ok rfl ?_
        refine tops_nil ?_
        refine w_norm [1, 6, 9, 10, 11, 15, 16, 17, 18] rfl rfl ?_
        refine twp_seq ?_
        refine twp_cond _ rfl (fun h11 => ?_) (fun h11 => ?_)
        · replace hm := ite_T h11 hm
          refine twp_skip ?_
          refine way_then ?_
          refine w_norm [1, 6, 9, 10, 11, 15, 16, 17] rfl rfl ?_
          refine twp_seq ?_
          refine twp_block ?_
          refine twp_rseq ?_
          obtain ⟨e12, he12, hm⟩ := get_inv hm
          refine s_x rfl rfl (x_ix tab_ok rfl rfl rfl rfl he12) ?_
          refine s_a tab_ok rfl ?_
          refine s_al 1 rfl rfl zero43 rfl ?_
          refine s_a tab_ok rfl ?_
          refine tops_nil ?_
          refine w_norm [1, 6, 8, 9, 10, 11, 15, 16, 17] rfl rfl ?_
          refine w_cut [(32, .d (.bool (((decide (e7.el = e12.el)) && (!(decide (e7.pos = e12.pos)))))))] [32] [1, 6, 9, 10, 11, 15, 16, 17] rfl ?_ ?_
          · refine twp_region ?_
            iterate 5 (refine s_a tab_ok rfl ?_)
            refine s_b tab_ok rfl (fun q13 hq13 => ?_)
            cases q13
            · iterate 6 (refine s_a tab_ok rfl ?_)
              refine tops_nil ?_
              refine way_then ?_
              exact ⟨[0, 1], rfl, k0, st_eq (fr_cons (av_bool (by simp [hq13])) rfl) rfl⟩
            · iterate 6 (refine s_a tab_ok rfl ?_)
              refine tops_nil ?_
              refine way_then ?_
              exact ⟨[0, 1], rfl, k0, st_eq (fr_cons (av_bool (by simp [hq13])) rfl) rfl⟩
          · refine w_norm [1, 6, 9, 10, 11, 15, 16, 17, 32] rfl rfl ?_
            refine twp_cond _ rfl (fun h14 => ?_) (fun h14 => ?_)
            · replace hm := iteB_T h14 hm
              refine twp_rseq ?_
              refine s_a tab_ok rfl ?_
              refine tops_nil ?_
              refine w_norm [4] rfl rfl ?_
              refine twp_ret ?_
              refine way_blockRet ?_
              refine way_thenRet ?_
              obtain ⟨v15, hm, hz⟩ := inr_inv hm
              rw [hz10 _ hz] at hm
              refine way_thenRet ?_
              refine way_blockRet ?_
              refine way_blockRet ?_
              obtain ⟨v16, hm, hz⟩ := inr_inv hm
              rw [hz6 _ hz] at hm
              refine way_thenRet ?_
              obtain ⟨v17, hm, hz⟩ := inr_inv hm
              rw [hz4 _ hz] at hm
              refine way_thenRet ?_
              refine way_blockRet ?_
              obtain ⟨v18, hm, hz⟩ := inr_inv hm
              rw [hz1 _ hz] at hm
              refine way_thenRet ?_
              obtain rfl := Option.some.inj hm
              exact EndsS.one _ rfl (.d _) (.refl _)
            · replace hm := iteB_F h14 hm
              refine twp_skip ?_
              refine way_block ?_
              refine way_then ?_
              refine w_norm [1, 6, 9, 10, 11, 15, 16, 17] rfl rfl ?_
              refine twp_region ?_
              obtain ⟨g19, hm⟩ := guard_inv hm
              refine s_x rfl rfl (x_ar rfl rfl rfl rfl g19) ?_
              refine s_a tab_ok rfl ?_
              refine tops_nil ?_
              refine way_then ?_
              exact ⟨_, [0], (Option.some.inj hm).symm, rfl, k0, rfl⟩
        · replace hm := ite_F h11 hm
          refine twp_exit ?_
          refine way_thenExit ?_
          obtain ⟨v20, hm, hz⟩ := inr_inv hm
          rw [hz10 _ hz] at hm
          refine way_thenExit ?_
          refine way_here ?_
          refine way_block ?_
          refine way_then ?_
          exact ⟨_, [], (Option.some.inj hm).symm, rfl, k0, rfl⟩
      · refine w_norm [1, 9, 10, 11] rfl rfl ?_
        refine twp_region ?_
        obtain ⟨g21, hm⟩ := guard_inv hm
        refine s_x rfl rfl (x_ar rfl rfl rfl rfl g21) ?_
        refine s_a tab_ok rfl ?_
        refine tops_nil ?_
        refine way_then ?_
        exact ⟨_, [], (Option.some.inj hm).symm, rfl, k0, rfl⟩
    · replace hm := ite_F h5 hm
      refine twp_exit ?_
      refine way_thenExit ?_
      obtain ⟨v22, hm, hz⟩ := inr_inv hm
      rw [hz4 _ hz] at hm
      refine way_thenExit ?_
      refine way_here ?_
      refine way_then ?_
      exact ⟨_, [], (Option.some.inj hm).symm, rfl, k0, rfl⟩
  · refine w_norm [] rfl rfl ?_
    refine twp_rseq ?_
    refine s_a tab_ok rfl ?_
    refine tops_nil ?_
    refine w_norm [4] rfl rfl ?_
    refine twp_ret ?_
    obtain rfl := Option.some.inj hm
    exact EndsS.one _ rfl (.d _) (.refl _)

end Go.Proofs.Ytkhdhopgiooloaa

set_option maxHeartbeats 400000
set_option linter.unusedSimpArgs false
set_option linter.unusedVariables false
set_option maxRecDepth 20000
namespace Go.Proofs.Ytkhdhopgiooloaa
open Go Go.TL

theorem table_Check_c {p0 : Table} {r : Int} (hm : table_Check p0 = some r) : RetN Try.prog 41 [p0.enc] (.int .i64 r) := by
  refine .unit (ret_bodyS callB41 Try.func41 rfl Try.ntmps41 rfl rfl (fun wX gX => ?_)) rfl
  unfold table_Check at hm
  refine w_norm [0] rfl rfl ?_
  refine twp_rseq ?_
  refine s_bx 0 rfl rfl rfl ?_
  refine s_a tab_ok rfl ?_
  refine tops_nil ?_
  refine w_norm [1] rfl rfl ?_
  refine twp_seq ?_
  refine w_joinM hm (fun x1 => ([(33, .d (.bool (x1)))] : Fr)) (fun x1 => ([] : List (Nat × Blk))) [33] [1] rfl (fun z2 hm => ?_) (fun x1 hm => ?_)
  · refine twp_region ?_
    iterate 2 (refine s_a tab_ok rfl ?_)
    refine s_x rfl rfl (x_len tab_ok rfl rfl rfl) ?_
    refine s_a tab_ok rfl ?_
    refine s_b tab_ok rfl (fun q3 hq3 => ?_)
    cases q3
    · replace hm := ite_F hq3 hm
      iterate 2 (refine s_a tab_ok rfl ?_)
      refine s_x rfl rfl (x_len tab_ok rfl rfl rfl) ?_
      iterate 2 (refine s_a tab_ok rfl ?_)
      refine s_b tab_ok rfl (fun q4 hq4 => ?_)
      cases q4
      · replace hm := ite_F hq4 hm
        iterate 2 (refine s_a tab_ok rfl ?_)
        obtain ⟨r5, hr5, hm⟩ := bind_inv hm
        refine s_x rfl rfl (rd_callRN rfl rfl (snaps_cons (.d _) (snaps_cons (.d _) snaps_nil)) (table_within_c hr5)) ?_
        iterate 2 (refine s_a tab_ok rfl ?_)
        refine s_b tab_ok rfl (fun q6 hq6 => ?_)
        cases q6
        · replace hm := iteB_F hq6 hm
          iterate 2 (refine s_a tab_ok rfl ?_)
          obtain ⟨r7, hr7, hm⟩ := bind_inv hm
          refine s_x rfl rfl (rd_callRN rfl rfl (snaps_cons (.d _) (snaps_cons (.d _) snaps_nil)) (table_within_c hr7)) ?_
          iterate 2 (refine s_a tab_ok rfl ?_)
          refine tops_nil ?_
          refine way_then ?_
          exact ⟨_, [0], (Option.some.inj hm).symm, rfl, k0, rfl⟩
        · replace hm := iteB_T hq6 hm
          iterate 5 (refine s_a tab_ok rfl ?_)
          refine tops_nil ?_
          refine way_then ?_
          exact ⟨_, [0], (Option.some.inj hm).symm, rfl, k0, rfl⟩
      · replace hm := ite_T hq4 hm
        iterate 11 (refine s_a tab_ok rfl ?_)
        refine tops_nil ?_
        refine way_then ?_
        exact ⟨_, [0], (Option.some.inj hm).symm, rfl, k0, rfl⟩
    · replace hm := ite_T hq3 hm
      iterate 17 (refine s_a tab_ok rfl ?_)
      refine tops_nil ?_
      refine way_then ?_
      exact ⟨_, [0], (Option.some.inj hm).symm, rfl, k0, rfl⟩
  · refine w_norm [1, 33] rfl rfl ?_
    refine twp_cond _ rfl (fun h8 => ?_) (fun h8 => ?_)
    · replace hm := iteB_T h8 hm
      refine twp_rseq ?_
      refine s_a tab_ok rfl ?_
      refine tops_nil ?_
      refine w_norm [2] rfl rfl ?_
      refine twp_ret ?_
      refine way_thenRet ?_
      obtain rfl := Option.some.inj hm
      exact EndsS.one _ rfl (.d _) (.refl _)
    · replace hm := iteB_F h8 hm
      refine twp_skip ?_
      refine way_then ?_
      refine w_norm [1] rfl rfl ?_
      refine twp_seq ?_
      refine twp_rseq ?_
      refine s_a tab_ok rfl ?_
      obtain ⟨r9, hr9, hm⟩ := bind_inv hm
      refine s_x rfl rfl (rd_callRN rfl rfl (snaps_cons (.d _) snaps_nil) (table_pointsRight_c hr9)) ?_
      refine s_a tab_ok rfl ?_
      refine tops_nil ?_
      refine w_norm [1, 36] rfl rfl ?_
      refine twp_cond _ rfl (fun h10 => ?_) (fun h10 => ?_)
      · replace hm := iteB_T h10 hm
        refine twp_rseq ?_
        refine s_a tab_ok rfl ?_
        refine tops_nil ?_
        refine w_norm [2] rfl rfl ?_
        refine twp_ret ?_
        refine way_thenRet ?_
        obtain rfl := Option.some.inj hm
        exact EndsS.one _ rfl (.d _) (.refl _)
      · replace hm := iteB_F h10 hm
        refine twp_skip ?_
        refine way_then ?_
        refine w_norm [1] rfl rfl ?_
        refine w_joinS hm (fun _ => ([] : Fr)) (fun _ => ([] : List (Nat × Blk))) [] [1] rfl (fun z11 hm hz11 => ?_) (fun j hm => ?_)
        · refine twp_rseq ?_
          iterate 2 (refine s_a tab_ok rfl ?_)
          refine s_x rfl rfl (x_len tab_ok rfl rfl rfl) ?_
          refine s_a tab_ok rfl ?_
          refine tops_nil ?_
          refine w_norm [1, 38, 39, 40] rfl rfl ?_
          refine twp_block ?_
          refine w_loop hm (fun x13 => ([(40, .d (.int .i64 x13))] : Fr)) (fun x13 => ([] : List (Nat × Blk))) [40] [1, 38, 39] [0] rfl k0 rfl rfl rfl rfl rfl (fun x13 z14 hm hz14 => ?_)
          refine w_norm [1, 38, 39, 40] rfl rfl ?_
          refine twp_rseq ?_
          refine s_a tab_ok rfl ?_
          refine tops_nil ?_
          refine w_norm [1, 38, 39, 40, 41] rfl rfl ?_
          refine twp_seq ?_
          refine twp_cond _ rfl (fun h15 => ?_) (fun h15 => ?_)
          · replace hm := ite_T h15 hm
            refine twp_skip ?_
            refine way_then ?_
            refine w_norm [1, 38, 39, 40] rfl rfl ?_
            refine twp_seq ?_
            refine twp_block ?_
            refine twp_rseq ?_
            obtain ⟨e16, he16, hm⟩ := get_inv hm
            refine s_x rfl rfl (x_ix tab_ok rfl rfl rfl rfl he16) ?_
            refine s_a tab_ok rfl ?_
            refine s_al 1 rfl rfl zero50 rfl ?_
            refine s_wkb 1 [none, none, none, some 3, some 2, some 1, none, none, some 3, some 2, some 1, some 2, some 1, some 2] rfl rfl ?_
            refine s_a tab_ok rfl ?_
            refine tops_nil ?_
            refine w_norm [1, 4, 38, 39, 40] rfl rfl ?_
            refine twp_rseq ?_
            iterate 2 (refine s_a tab_ok rfl ?_)
            obtain ⟨r17, hr17, hm⟩ := bind_inv hm
            refine s_x rfl rfl (rd_callRN rfl rfl (snaps_cons (.d _) (snaps_cons (.d _) snaps_nil)) (table_routeRight_c hr17)) ?_
            refine s_a tab_ok rfl ?_
            refine tops_nil ?_
            refine w_norm [1, 38, 39, 40, 47] rfl rfl ?_
            refine twp_cond _ rfl (fun h18 => ?_) (fun h18 => ?_)
            · replace hm := iteB_T h18 hm
              refine twp_rseq ?_
              refine s_a tab_ok rfl ?_
              refine tops_nil ?_
              refine w_norm [2] rfl rfl ?_
              refine twp_ret ?_
              refine way_blockRet ?_
              refine way_thenRet ?_
              obtain ⟨v19, hm, hz⟩ := inr_inv hm
              rw [hz14 _ hz] at hm
              refine way_thenRet ?_
              refine way_blockRet ?_
              obtain ⟨v20, hm, hz⟩ := inr_inv hm
              rw [hz11 _ hz] at hm
              refine way_thenRet ?_
              obtain rfl := Option.some.inj hm
              exact EndsS.one _ rfl (.d _) (.refl _)
            · replace hm := iteB_F h18 hm
              refine twp_skip ?_
              refine way_block ?_
              refine way_then ?_
              refine w_norm [1, 38, 39, 40] rfl rfl ?_
              refine twp_region ?_
              obtain ⟨g21, hm⟩ := guard_inv hm
              refine s_x rfl rfl (x_ar rfl rfl rfl rfl g21) ?_
              refine s_a tab_ok rfl ?_
              refine tops_nil ?_
              refine way_then ?_
              exact ⟨_, [0], (Option.some.inj hm).symm, rfl, k0, rfl⟩
          · replace hm := ite_F h15 hm
            refine twp_exit ?_
            refine way_thenExit ?_
            obtain ⟨v22, hm, hz⟩ := inr_inv hm
            rw [hz14 _ hz] at hm
            refine way_thenExit ?_
            refine way_here ?_
            refine way_then ?_
            exact ⟨_, [0], (Option.some.inj hm).symm, rfl, k0, rfl⟩
        · refine w_norm [1] rfl rfl ?_
          refine w_joinS hm (fun _ => ([] : Fr)) (fun _ => ([] : List (Nat × Blk))) [] [1] rfl (fun z23 hm hz23 => ?_) (fun j hm => ?_)
          · refine twp_rseq ?_
            iterate 2 (refine s_a tab_ok rfl ?_)
            refine s_x rfl rfl (x_len tab_ok rfl rfl rfl) ?_
            refine s_a tab_ok rfl ?_
            refine tops_nil ?_
            refine w_norm [1, 50, 51, 52] rfl rfl ?_
            refine twp_block ?_
            refine w_loop hm (fun x25 => ([(52, .d (.int .i64 x25))] : Fr)) (fun x25 => ([] : List (Nat × Blk))) [52] [1, 50, 51] [0] rfl k0 rfl rfl rfl rfl rfl (fun x25 z26 hm hz26 => ?_)
            refine w_norm [1, 50, 51, 52] rfl rfl ?_
            refine twp_rseq ?_
            refine s_a tab_ok rfl ?_
            refine tops_nil ?_
            refine w_norm [1, 50, 51, 52, 53] rfl rfl ?_
            refine twp_seq ?_
            refine twp_cond _ rfl (fun h27 => ?_) (fun h27 => ?_)
            · replace hm := ite_T h27 hm
              refine twp_skip ?_
              refine way_then ?_
              refine w_norm [1, 50, 51, 52] rfl rfl ?_
              refine twp_seq ?_
              refine twp_block ?_
              refine twp_rseq ?_
              obtain ⟨e28, he28, hm⟩ := get_inv hm
              refine s_x rfl rfl (x_ix tab_ok rfl rfl rfl rfl he28) ?_
              refine s_a tab_ok rfl ?_
              refine s_al 1 rfl rfl zero50 rfl ?_
              refine s_wkb 1 [none, none, none, some 3, some 2, some 1, none, none, some 3, some 2, some 1, some 2, some 1, some 2] rfl rfl ?_
              refine s_a tab_ok rfl ?_
              refine tops_nil ?_
              refine w_norm [1, 6, 50, 51, 52] rfl rfl ?_
              refine w_joinM hm (fun x29 => ([(74, .d (.bool (x29)))] : Fr)) (fun x29 => ([] : List (Nat × Blk))) [74] [1, 50, 51, 52] rfl (fun z30 hm => ?_) (fun x29 hm => ?_)
              · refine twp_region ?_
                iterate 3 (refine s_a tab_ok rfl ?_)
                obtain ⟨r31, hr31, hm⟩ := bind_inv hm
                refine s_x rfl rfl (rd_callRN rfl rfl (snaps_cons (.d _) (snaps_cons (.d _) snaps_nil)) (table_settingsRight_c hr31)) ?_
                refine s_a tab_ok rfl ?_
                refine s_b tab_ok rfl (fun q32 hq32 => ?_)
                cases q32
                · replace hm := iteB_F hq32 hm
                  iterate 3 (refine s_a tab_ok rfl ?_)
                  obtain ⟨r33, hr33, hm⟩ := bind_inv hm
                  refine s_x rfl rfl (rd_callRN rfl rfl (snaps_cons (.d _) (snaps_cons (.d _) snaps_nil)) (table_settingsRight_c hr33)) ?_
                  iterate 2 (refine s_a tab_ok rfl ?_)
                  refine s_b tab_ok rfl (fun q34 hq34 => ?_)
                  cases q34
                  · replace hm := iteB_F hq34 hm
                    iterate 3 (refine s_a tab_ok rfl ?_)
                    obtain ⟨r35, hr35, hm⟩ := bind_inv hm
                    refine s_x rfl rfl (rd_callRN rfl rfl (snaps_cons (.d _) (snaps_cons (.d _) snaps_nil)) (table_settingsRight_c hr35)) ?_
                    iterate 2 (refine s_a tab_ok rfl ?_)
                    refine tops_nil ?_
                    refine way_then ?_
                    exact ⟨_, [0, 1], (Option.some.inj hm).symm, rfl, k0, rfl⟩
                  · replace hm := iteB_T hq34 hm
                    iterate 6 (refine s_a tab_ok rfl ?_)
                    refine tops_nil ?_
                    refine way_then ?_
                    exact ⟨_, [0, 1], (Option.some.inj hm).symm, rfl, k0, rfl⟩
                · replace hm := iteB_T hq32 hm
                  iterate 13 (refine s_a tab_ok rfl ?_)
                  refine tops_nil ?_
                  refine way_then ?_
                  exact ⟨_, [0, 1], (Option.some.inj hm).symm, rfl, k0, rfl⟩
              · refine w_norm [1, 50, 51, 52, 74] rfl rfl ?_
                refine twp_cond _ rfl (fun h36 => ?_) (fun h36 => ?_)
                · replace hm := iteB_T h36 hm
                  refine twp_rseq ?_
                  refine s_a tab_ok rfl ?_
                  refine tops_nil ?_
                  refine w_norm [2] rfl rfl ?_
                  refine twp_ret ?_
                  refine way_blockRet ?_
                  refine way_thenRet ?_
                  obtain ⟨v37, hm, hz⟩ := inr_inv hm
                  rw [hz26 _ hz] at hm
                  refine way_thenRet ?_
                  refine way_blockRet ?_
                  obtain ⟨v38, hm, hz⟩ := inr_inv hm
                  rw [hz23 _ hz] at hm
                  refine way_thenRet ?_
                  obtain rfl := Option.some.inj hm
                  exact EndsS.one _ rfl (.d _) (.refl _)
                · replace hm := iteB_F h36 hm
                  refine twp_skip ?_
                  refine way_block ?_
                  refine way_then ?_
                  refine w_norm [1, 50, 51, 52] rfl rfl ?_
                  refine twp_region ?_
                  obtain ⟨g39, hm⟩ := guard_inv hm
                  refine s_x rfl rfl (x_ar rfl rfl rfl rfl g39) ?_
                  refine s_a tab_ok rfl ?_
                  refine tops_nil ?_
                  refine way_then ?_
                  exact ⟨_, [0], (Option.some.inj hm).symm, rfl, k0, rfl⟩
            · replace hm := ite_F h27 hm
              refine twp_exit ?_
              refine way_thenExit ?_
              obtain ⟨v40, hm, hz⟩ := inr_inv hm
              rw [hz26 _ hz] at hm
              refine way_thenExit ?_
              refine way_here ?_
              refine way_then ?_
              exact ⟨_, [0], (Option.some.inj hm).symm, rfl, k0, rfl⟩
          · refine w_norm [1] rfl rfl ?_
            refine w_joinS hm (fun _ => ([] : Fr)) (fun _ => ([] : List (Nat × Blk))) [] [1] rfl (fun z41 hm hz41 => ?_) (fun j hm => ?_)
            · refine twp_rseq ?_
              iterate 2 (refine s_a tab_ok rfl ?_)
              refine s_x rfl rfl (x_len tab_ok rfl rfl rfl) ?_
              refine s_a tab_ok rfl ?_
              refine tops_nil ?_
              refine w_norm [1, 77, 78, 79] rfl rfl ?_
              refine twp_block ?_
              refine w_loop hm (fun x43 => ([(79, .d (.int .i64 x43))] : Fr)) (fun x43 => ([] : List (Nat × Blk))) [79] [1, 77, 78] [0] rfl k0 rfl rfl rfl rfl rfl (fun x43 z44 hm hz44 => ?_)
              refine w_norm [1, 77, 78, 79] rfl rfl ?_
              refine twp_rseq ?_
              refine s_a tab_ok rfl ?_
              refine tops_nil ?_
              refine w_norm [1, 77, 78, 79, 80] rfl rfl ?_
              refine twp_seq ?_
              refine twp_cond _ rfl (fun h45 => ?_) (fun h45 => ?_)
              · replace hm := ite_T h45 hm
                refine twp_skip ?_
                refine way_then ?_
                refine w_norm [1, 77, 78, 79] rfl rfl ?_
                refine twp_seq ?_
                refine twp_block ?_
                refine twp_rseq ?_
                obtain ⟨e46, he46, hm⟩ := get_inv hm
                refine s_x rfl rfl (x_ix tab_ok rfl rfl rfl rfl he46) ?_
                refine s_a tab_ok rfl ?_
                refine s_al 1 rfl rfl zero50 rfl ?_
                refine s_wkb 1 [none, none, none, some 3, some 2, some 1, none, none, some 3, some 2, some 1, some 2, some 1, some 2] rfl rfl ?_
                refine s_a tab_ok rfl ?_
                refine tops_nil ?_
                refine w_norm [1, 8, 77, 78, 79] rfl rfl ?_
                refine w_joinM hm (fun x47 => ([(104, .d (.bool (x47)))] : Fr)) (fun x47 => ([] : List (Nat × Blk))) [104] [1, 77, 78, 79] rfl (fun z48 hm => ?_) (fun x47 hm => ?_)
                · refine twp_region ?_
                  iterate 4 (refine s_a tab_ok rfl ?_)
                  obtain ⟨r49, hr49, hm⟩ := bind_inv hm
                  refine s_x rfl rfl (rd_callRN rfl rfl (snaps_cons (.d _) (snaps_cons (.d _) snaps_nil)) (conflict_Agree_c hr49)) ?_
                  refine s_a tab_ok rfl ?_
                  refine s_b tab_ok rfl (fun q50 hq50 => ?_)
                  cases q50
                  · replace hm := iteB_F hq50 hm
                    iterate 4 (refine s_a tab_ok rfl ?_)
                    obtain ⟨r51, hr51, hm⟩ := bind_inv hm
                    refine s_x rfl rfl (rd_callRN rfl rfl (snaps_cons (.d _) (snaps_cons (.d _) snaps_nil)) (conflict_Agree_c hr51)) ?_
                    iterate 2 (refine s_a tab_ok rfl ?_)
                    refine s_b tab_ok rfl (fun q52 hq52 => ?_)
                    cases q52
                    · replace hm := iteB_F hq52 hm
                      iterate 4 (refine s_a tab_ok rfl ?_)
                      obtain ⟨r53, hr53, hm⟩ := bind_inv hm
                      refine s_x rfl rfl (rd_callRN rfl rfl (snaps_cons (.d _) (snaps_cons (.d _) snaps_nil)) (conflict_Agree_c hr53)) ?_
                      iterate 2 (refine s_a tab_ok rfl ?_)
                      refine tops_nil ?_
                      refine way_then ?_
                      exact ⟨_, [0, 1], (Option.some.inj hm).symm, rfl, k0, rfl⟩
                    · replace hm := iteB_T hq52 hm
                      iterate 7 (refine s_a tab_ok rfl ?_)
                      refine tops_nil ?_
                      refine way_then ?_
                      exact ⟨_, [0, 1], (Option.some.inj hm).symm, rfl, k0, rfl⟩
                  · replace hm := iteB_T hq50 hm
                    iterate 15 (refine s_a tab_ok rfl ?_)
                    refine tops_nil ?_
                    refine way_then ?_
                    exact ⟨_, [0, 1], (Option.some.inj hm).symm, rfl, k0, rfl⟩
                · refine w_norm [1, 77, 78, 79, 104] rfl rfl ?_
                  refine twp_cond _ rfl (fun h54 => ?_) (fun h54 => ?_)
                  · replace hm := iteB_T h54 hm
                    refine twp_rseq ?_
                    refine s_a tab_ok rfl ?_
                    refine tops_nil ?_
                    refine w_norm [2] rfl rfl ?_
                    refine twp_ret ?_
                    refine way_blockRet ?_
                    refine way_thenRet ?_
                    obtain ⟨v55, hm, hz⟩ := inr_inv hm
                    rw [hz44 _ hz] at hm
                    refine way_thenRet ?_
                    refine way_blockRet ?_
                    obtain ⟨v56, hm, hz⟩ := inr_inv hm
                    rw [hz41 _ hz] at hm
                    refine way_thenRet ?_
                    obtain rfl := Option.some.inj hm
                    exact EndsS.one _ rfl (.d _) (.refl _)
                  · replace hm := iteB_F h54 hm
                    refine twp_skip ?_
                    refine way_block ?_
                    refine way_then ?_
                    refine w_norm [1, 77, 78, 79] rfl rfl ?_
                    refine twp_region ?_
                    obtain ⟨g57, hm⟩ := guard_inv hm
                    refine s_x rfl rfl (x_ar rfl rfl rfl rfl g57) ?_
                    refine s_a tab_ok rfl ?_
                    refine tops_nil ?_
                    refine way_then ?_
                    exact ⟨_, [0], (Option.some.inj hm).symm, rfl, k0, rfl⟩
              · replace hm := ite_F h45 hm
                refine twp_exit ?_
                refine way_thenExit ?_
                obtain ⟨v58, hm, hz⟩ := inr_inv hm
                rw [hz44 _ hz] at hm
                refine way_thenExit ?_
                refine way_here ?_
                refine way_then ?_
                exact ⟨_, [0], (Option.some.inj hm).symm, rfl, k0, rfl⟩
            · refine w_norm [1] rfl rfl ?_
              refine twp_rseq ?_
              refine s_makeMap 9 4 rfl ?_
              refine s_eq 106 (.mmap 1) rfl rfl ?_
              refine s_a tab_ok rfl ?_
              refine tops_nil ?_
              refine w_norm [1, 9] rfl rfl ?_
              refine w_joinS hm (fun m59 => ([] : Fr)) (fun m59 => ([(1, .map 9 4 (pairMap D.str D.bool m59))] : List (Nat × Blk))) [] [] rfl (fun z60 hm hz60 => ?_) (fun m59 hm => ?_)
              · refine twp_rseq ?_
                iterate 2 (refine s_a tab_ok rfl ?_)
                refine s_x rfl rfl (x_len tab_ok rfl rfl rfl) ?_
                refine s_a tab_ok rfl ?_
                refine tops_nil ?_
                refine w_norm [9, 108, 109, 110] rfl rfl ?_
                refine twp_block ?_
                refine w_loop hm (fun (x64, b65) => ([(110, .d (.int .i64 x64))] : Fr)) (fun (x64, b65) => ([(1, .map 9 4 (pairMap D.str D.bool b65))] : List (Nat × Blk))) [110] [9, 108, 109] [0, 1] rfl k0 rfl rfl rfl rfl rfl (fun s z66 hm hz66 => ?_)
                obtain ⟨x64, b65⟩ := s
                refine w_norm [9, 108, 109, 110] rfl rfl ?_
                refine twp_rseq ?_
                refine s_a tab_ok rfl ?_
                refine tops_nil ?_
                refine w_norm [9, 108, 109, 110, 111] rfl rfl ?_
                refine twp_seq ?_
                refine twp_cond _ rfl (fun h67 => ?_) (fun h67 => ?_)
                · replace hm := ite_T h67 hm
                  refine twp_skip ?_
                  refine way_then ?_
                  refine w_norm [9, 108, 109, 110] rfl rfl ?_
                  refine twp_seq ?_
                  refine twp_block ?_
                  refine twp_rseq ?_
                  obtain ⟨e68, he68, hm⟩ := get_inv hm
                  refine s_x rfl rfl (x_ix tab_ok rfl rfl rfl rfl he68) ?_
                  refine s_a tab_ok rfl ?_
                  refine s_al 2 rfl rfl zero50 rfl ?_
                  refine s_wkb 2 [none, none, none, some 3, some 2, some 1, none, none, some 3, some 2, some 1, some 2, some 1, some 2] rfl rfl ?_
                  refine s_a tab_ok rfl ?_
                  refine tops_nil ?_
                  refine w_norm [9, 11, 108, 109, 110] rfl rfl ?_
                  refine twp_seq ?_
                  refine twp_rseq ?_
                  iterate 3 (refine s_a tab_ok rfl ?_)
                  obtain ⟨g69, hm⟩ := guard_inv hm
                  refine s_x rfl rfl (x_look0 keyF_str D.bool _ _ false rfl mty78 zero4 rfl rfl rfl rfl g69) ?_
                  refine tops_nil ?_
                  refine w_norm [9, 11, 108, 109, 110, 117] rfl rfl ?_
                  refine twp_cond _ rfl (fun h70 => ?_) (fun h70 => ?_)
                  · replace hm := iteB_T h70 hm
                    refine twp_rseq ?_
                    refine s_a tab_ok rfl ?_
                    refine tops_nil ?_
                    refine w_norm [2] rfl rfl ?_
                    refine twp_ret ?_
                    refine way_thenRet ?_
                    refine way_blockRet ?_
                    refine way_thenRet ?_
                    obtain ⟨v71, hm, hz⟩ := inr_inv hm
                    rw [hz66 _ hz] at hm
                    refine way_thenRet ?_
                    refine way_blockRet ?_
                    obtain ⟨v72, hm, hz⟩ := inr_inv hm
                    rw [hz60 _ hz] at hm
                    refine way_thenRet ?_
                    obtain rfl := Option.some.inj hm
                    exact EndsS.one _ rfl (.d _) (.refl _)
                  · replace hm := iteB_F h70 hm
                    refine twp_skip ?_
                    refine way_then ?_
                    refine w_norm [9, 11, 108, 109, 110] rfl rfl ?_
                    refine twp_region ?_
                    iterate 3 (refine s_a tab_ok rfl ?_)
                    obtain ⟨g73, hm⟩ := guard_inv hm
                    refine s_putE keyF_str D.bool mty78 rfl rfl rfl rfl g73 ?_
                    refine tops_nil ?_
                    refine way_block ?_
                    refine way_then ?_
                    refine w_norm [9, 108, 109, 110] rfl rfl ?_
                    refine twp_region ?_
                    obtain ⟨g74, hm⟩ := guard_inv hm
                    refine s_x rfl rfl (x_ar rfl rfl rfl rfl g74) ?_
                    refine s_a tab_ok rfl ?_
                    refine tops_nil ?_
                    refine way_then ?_
                    exact ⟨_, [0, 1], (Option.some.inj hm).symm, rfl, k0, rfl⟩
                · replace hm := ite_F h67 hm
                  refine twp_exit ?_
                  refine way_thenExit ?_
                  obtain ⟨v75, hm, hz⟩ := inr_inv hm
                  rw [hz66 _ hz] at hm
                  refine way_thenExit ?_
                  refine way_here ?_
                  refine way_then ?_
                  exact ⟨_, [0, 1], (Option.some.inj hm).symm, rfl, k0, rfl⟩
              · refine w_norm [] rfl rfl ?_
                refine twp_rseq ?_
                refine s_a tab_ok rfl ?_
                refine tops_nil ?_
                refine w_norm [2] rfl rfl ?_
                refine twp_ret ?_
                obtain rfl := Option.some.inj hm
                exact EndsS.one _ rfl (.d _) (.refl _)

theorem slices_IndexFunc_int_c {p0 : (List Int)} {p1 : Int → Option Bool} {c1 : D} (hf1 : ∀ a0 r, p1 a0 = some r → ∃ F cs, fnOf c1 = some (F, cs) ∧ RetD Try.prog F ([.int .i64 a0] ++ cs) (.bool (r))) {r : Int} (hm : slices_IndexFunc_int p0 p1 = some r) : RetN Try.prog 68 [.sl 1 (p0.map (D.int .i64)), c1] (.int .i64 r) := by
  refine .unit (ret_bodyS callB68 Try.func68 rfl Try.ntmps68 rfl rfl (fun wX gX => ?_)) rfl
  unfold slices_IndexFunc_int at hm
  refine w_norm [0, 1] rfl rfl ?_
  refine twp_rseq ?_
  refine s_a tab_ok rfl ?_
  refine tops_nil ?_
  refine w_norm [0, 1] rfl rfl ?_
  refine w_joinS hm (fun _ => ([] : Fr)) (fun _ => ([] : List (Nat × Blk))) [] [] rfl (fun z1 hm hz1 => ?_) (fun j hm => ?_)
  · refine twp_rseq ?_
    refine s_a tab_ok rfl ?_
    refine s_x rfl rfl (x_len tab_ok rfl rfl rfl) ?_
    refine s_a tab_ok rfl ?_
    refine tops_nil ?_
    refine w_norm [0, 1, 7, 8] rfl rfl ?_
    refine twp_block ?_
    refine w_loop hm (fun x3 => ([(8, .d (.int .i64 x3))] : Fr)) (fun x3 => ([] : List (Nat × Blk))) [8] [0, 1, 7] [] rfl k0 rfl rfl rfl rfl rfl (fun x3 z4 hm hz4 => ?_)
    refine w_norm [0, 1, 7, 8] rfl rfl ?_
    refine twp_rseq ?_
    refine s_a tab_ok rfl ?_
    refine tops_nil ?_
    refine w_norm [0, 1, 7, 8, 9] rfl rfl ?_
    refine twp_seq ?_
    refine twp_cond _ rfl (fun h5 => ?_) (fun h5 => ?_)
    · replace hm := ite_T h5 hm
      refine twp_skip ?_
      refine way_then ?_
      refine w_norm [0, 1, 7, 8] rfl rfl ?_
      refine twp_seq ?_
      refine twp_block ?_
      refine twp_rseq ?_
      iterate 2 (refine s_a tab_ok rfl ?_)
      refine tops_nil ?_
      refine w_norm [0, 1, 5, 7, 8] rfl rfl ?_
      refine twp_rseq ?_
      iterate 3 (refine s_a tab_ok rfl ?_)
      obtain ⟨e6, he6, hm⟩ := get_inv hm
      refine s_x rfl rfl (x_ix tab_ok rfl rfl rfl rfl he6) ?_
      refine s_a tab_ok rfl ?_
      obtain ⟨r7, hr7, hm⟩ := bind_inv hm
      obtain ⟨Fr7, csr7, hFr7, hcr7⟩ := hf1 _ _ hr7
      refine s_x rfl rfl (rd_callC rfl rfl hFr7 rfl hcr7) ?_
      refine tops_nil ?_
      refine w_norm [0, 1, 5, 7, 8, 16] rfl rfl ?_
      refine twp_cond _ rfl (fun h8 => ?_) (fun h8 => ?_)
      · replace hm := iteB_T h8 hm
        refine twp_rseq ?_
        iterate 2 (refine s_a tab_ok rfl ?_)
        refine tops_nil ?_
        refine w_norm [4] rfl rfl ?_
        refine twp_ret ?_
        refine way_blockRet ?_
        refine way_thenRet ?_
        obtain ⟨v9, hm, hz⟩ := inr_inv hm
        rw [hz4 _ hz] at hm
        refine way_thenRet ?_
        refine way_blockRet ?_
        obtain ⟨v10, hm, hz⟩ := inr_inv hm
        rw [hz1 _ hz] at hm
        refine way_thenRet ?_
        obtain rfl := Option.some.inj hm
        exact EndsS.one _ rfl (.d _) (.refl _)
      · replace hm := iteB_F h8 hm
        refine twp_skip ?_
        refine way_block ?_
        refine way_then ?_
        refine w_norm [0, 1, 7, 8] rfl rfl ?_
        refine twp_region ?_
        obtain ⟨g11, hm⟩ := guard_inv hm
        refine s_x rfl rfl (x_ar rfl rfl rfl rfl g11) ?_
        refine s_a tab_ok rfl ?_
        refine tops_nil ?_
        refine way_then ?_
        exact ⟨_, [], (Option.some.inj hm).symm, rfl, k0, rfl⟩
    · replace hm := ite_F h5 hm
      refine twp_exit ?_
      refine way_thenExit ?_
      obtain ⟨v12, hm, hz⟩ := inr_inv hm
      rw [hz4 _ hz] at hm
      refine way_thenExit ?_
      refine way_here ?_
      refine way_then ?_
      exact ⟨_, [], (Option.some.inj hm).symm, rfl, k0, rfl⟩
  · refine w_norm [] rfl rfl ?_
    refine twp_rseq ?_
    refine s_a tab_ok rfl ?_
    refine tops_nil ?_
    refine w_norm [4] rfl rfl ?_
    refine twp_ret ?_
    obtain rfl := Option.some.inj hm
    exact EndsS.one _ rfl (.d _) (.refl _)

theorem slices_ContainsFunc_int_c {p0 : (List Int)} {p1 : Int → Option Bool} {c1 : D} (hf1 : ∀ a0 r, p1 a0 = some r → ∃ F cs, fnOf c1 = some (F, cs) ∧ RetD Try.prog F ([.int .i64 a0] ++ cs) (.bool (r))) {r : Bool} (hm : slices_ContainsFunc_int p0 p1 = some r) : RetN Try.prog 46 [.sl 1 (p0.map (D.int .i64)), c1] (.bool (r)) := by
  refine .unit (ret_bodyS callB46 Try.func46 rfl Try.ntmps46 rfl rfl (fun wX gX => ?_)) rfl
  unfold slices_ContainsFunc_int at hm
  refine w_norm [0, 1] rfl rfl ?_
  refine twp_rseq ?_
  refine s_a tab_ok rfl ?_
  refine tops_nil ?_
  refine w_norm [0, 1] rfl rfl ?_
  refine twp_rseq ?_
  iterate 2 (refine s_a tab_ok rfl ?_)
  obtain ⟨r1, hr1, hm⟩ := bind_inv hm
  refine s_x rfl rfl (rd_callRN rfl rfl (snaps_cons (.d _) (snaps_cons (.d _) snaps_nil)) (slices_IndexFunc_int_c hf1 hr1)) ?_
  iterate 2 (refine s_a tab_ok rfl ?_)
  refine tops_nil ?_
  refine w_norm [4] rfl rfl ?_
  refine twp_ret ?_
  obtain rfl := Option.some.inj hm
  exact EndsS.one _ rfl (.d _) (.refl _)

theorem progress_fits_c1_c {p0 : Int} {r : Bool} (hm : progress_fits_c1 p0 = some r) : RetN Try.prog 47 [.int .i64 p0] (.bool (r)) := by
  refine .unit (ret_bodyS callB47 Try.func47 rfl Try.ntmps47 rfl rfl (fun wX gX => ?_)) rfl
  unfold progress_fits_c1 at hm
  refine w_norm [0] rfl rfl ?_
  refine twp_rseq ?_
  refine s_a tab_ok rfl ?_
  refine tops_nil ?_
  refine w_norm [0] rfl rfl ?_
  refine w_cut [(2, .d (.bool (((!(decide (p0 = (1 : Int)))) && (!(decide (p0 = (2 : Int))))))))] [2] [] rfl ?_ ?_
  · refine twp_region ?_
    iterate 2 (refine s_a tab_ok rfl ?_)
    refine s_b tab_ok rfl (fun q1 hq1 => ?_)
    cases q1
    · iterate 4 (refine s_a tab_ok rfl ?_)
      refine tops_nil ?_
      refine way_then ?_
      exact ⟨[], rfl, k0, st_eq (fr_cons (av_bool (by simp [hq1])) rfl) rfl⟩
    · iterate 4 (refine s_a tab_ok rfl ?_)
      refine tops_nil ?_
      refine way_then ?_
      exact ⟨[], rfl, k0, st_eq (fr_cons (av_bool (by simp [hq1])) rfl) rfl⟩
  · refine w_norm [2] rfl rfl ?_
    refine twp_ret ?_
    obtain rfl := Option.some.inj hm
    exact EndsS.one _ rfl (.d _) (.refl _)

theorem progress_fits_c {p0 : Table} {p1 : Inter} {r : Bool} (hm : progress_fits p0 p1 = some r) : RetN Try.prog 25 [p0.enc, p1.enc] (.bool (r)) := by
  refine .unit (ret_bodyS callB25 Try.func25 rfl Try.ntmps25 rfl rfl (fun wX gX => ?_)) rfl
  unfold progress_fits at hm
  refine w_norm [0, 1] rfl rfl ?_
  refine twp_rseq ?_
  refine s_bx 0 rfl rfl rfl ?_
  refine s_bx 1 rfl rfl rfl ?_
  refine s_a tab_ok rfl ?_
  refine tops_nil ?_
  refine w_norm [2, 3] rfl rfl ?_
  refine twp_seq ?_
  refine w_joinM hm (fun x1 => ([(29, .d (.bool (x1)))] : Fr)) (fun x1 => ([] : List (Nat × Blk))) [29] [2, 3] rfl (fun z2 hm => ?_) (fun x1 hm => ?_)
  · refine twp_region ?_
    refine s_a tab_ok rfl ?_
    obtain ⟨r3, hr3, hm⟩ := bind_inv hm
    refine s_x rfl rfl (rd_callRN rfl rfl (snaps_cons (.d _) snaps_nil) (table_Check_c hr3)) ?_
    refine s_a tab_ok rfl ?_
    refine s_b tab_ok rfl (fun q4 hq4 => ?_)
    cases q4
    · replace hm := iteN_F hq4 hm
      iterate 2 (refine s_a tab_ok rfl ?_)
      refine s_x rfl rfl (x_len tab_ok rfl rfl rfl) ?_
      iterate 2 (refine s_a tab_ok rfl ?_)
      refine s_x rfl rfl (x_len tab_ok rfl rfl rfl) ?_
      iterate 2 (refine s_a tab_ok rfl ?_)
      refine s_b tab_ok rfl (fun q5 hq5 => ?_)
      cases q5
      · replace hm := iteN_F hq5 hm
        iterate 2 (refine s_a tab_ok rfl ?_)
        refine s_x rfl rfl (x_len tab_ok rfl rfl rfl) ?_
        iterate 2 (refine s_a tab_ok rfl ?_)
        refine s_x rfl rfl (x_len tab_ok rfl rfl rfl) ?_
        iterate 2 (refine s_a tab_ok rfl ?_)
        refine tops_nil ?_
        refine way_then ?_
        exact ⟨_, [0, 1], (Option.some.inj hm).symm, rfl, k0, rfl⟩
      · replace hm := iteN_T hq5 hm
        iterate 8 (refine s_a tab_ok rfl ?_)
        refine tops_nil ?_
        refine way_then ?_
        exact ⟨_, [0, 1], (Option.some.inj hm).symm, rfl, k0, rfl⟩
    · replace hm := iteN_T hq4 hm
      iterate 17 (refine s_a tab_ok rfl ?_)
      refine tops_nil ?_
      refine way_then ?_
      exact ⟨_, [0, 1], (Option.some.inj hm).symm, rfl, k0, rfl⟩
  · refine w_norm [2, 3, 29] rfl rfl ?_
    refine twp_cond _ rfl (fun h6 => ?_) (fun h6 => ?_)
    · replace hm := iteB_T h6 hm
      refine twp_rseq ?_
      refine s_a tab_ok rfl ?_
      refine tops_nil ?_
      refine w_norm [4] rfl rfl ?_
      refine twp_ret ?_
      refine way_thenRet ?_
      obtain rfl := Option.some.inj hm
      exact EndsS.one _ rfl (.d _) (.refl _)
    · replace hm := iteB_F h6 hm
      refine twp_skip ?_
      refine way_then ?_
      refine w_norm [2, 3] rfl rfl ?_
      refine w_joinS hm (fun _ => ([] : Fr)) (fun _ => ([] : List (Nat × Blk))) [] [3] rfl (fun z7 hm hz7 => ?_) (fun j hm => ?_)
      · refine twp_rseq ?_
        iterate 2 (refine s_a tab_ok rfl ?_)
        refine s_x rfl rfl (x_len tab_ok rfl rfl rfl) ?_
        refine s_a tab_ok rfl ?_
        refine tops_nil ?_
        refine w_norm [2, 3, 31, 32, 33] rfl rfl ?_
        refine twp_block ?_
        refine w_loop hm (fun x9 => ([(33, .d (.int .i64 x9))] : Fr)) (fun x9 => ([] : List (Nat × Blk))) [33] [2, 3, 31, 32] [0, 1] rfl k0 rfl rfl rfl rfl rfl (fun x9 z10 hm hz10 => ?_)
        refine w_norm [2, 3, 31, 32, 33] rfl rfl ?_
        refine twp_rseq ?_
        refine s_a tab_ok rfl ?_
        refine tops_nil ?_
        refine w_norm [2, 3, 31, 32, 33, 34] rfl rfl ?_
        refine twp_seq ?_
        refine twp_cond _ rfl (fun h11 => ?_) (fun h11 => ?_)
        · replace hm := ite_T h11 hm
          refine twp_skip ?_
          refine way_then ?_
          refine w_norm [2, 3, 31, 32, 33] rfl rfl ?_
          refine twp_seq ?_
          refine twp_block ?_
          refine twp_rseq ?_
          refine s_a tab_ok rfl ?_
          obtain ⟨e12, he12, hm⟩ := get_inv hm
          refine s_x rfl rfl (x_ix tab_ok rfl rfl rfl rfl he12) ?_
          refine s_a tab_ok rfl ?_
          refine s_al 2 rfl rfl zero36 rfl ?_
          iterate 2 (refine s_a tab_ok rfl ?_)
          refine tops_nil ?_
          refine w_norm [2, 3, 5, 6, 31, 32, 33] rfl rfl ?_
          refine twp_rseq ?_
          iterate 3 (refine s_a tab_ok rfl ?_)
          obtain ⟨e13, he13, hm⟩ := get_inv hm
          refine s_x rfl rfl (x_ix tab_ok rfl rfl rfl rfl he13) ?_
          iterate 2 (refine s_a tab_ok rfl ?_)
          refine s_x rfl rfl (x_len tab_ok rfl rfl rfl) ?_
          refine s_a tab_ok rfl ?_
          refine tops_nil ?_
          refine w_norm [2, 3, 6, 7, 31, 32, 33] rfl rfl ?_
          refine w_cut [(8, .d (.bool (((decide (e12.state = (3 : Int))) || (decide (e12.state = (4 : Int)))))))] [8] [2, 3, 6, 7, 31, 32, 33] rfl ?_ ?_
          · refine twp_region ?_
            iterate 3 (refine s_a tab_ok rfl ?_)
            refine s_b tab_ok rfl (fun q14 hq14 => ?_)
            cases q14
            · iterate 5 (refine s_a tab_ok rfl ?_)
              refine tops_nil ?_
              refine way_then ?_
              exact ⟨[0, 1, 2], rfl, k0, st_eq (fr_cons (av_bool (by simp [hq14])) rfl) rfl⟩
            · iterate 5 (refine s_a tab_ok rfl ?_)
              refine tops_nil ?_
              refine way_then ?_
              exact ⟨[0, 1, 2], rfl, k0, st_eq (fr_cons (av_bool (by simp [hq14])) rfl) rfl⟩
          · refine w_norm [2, 3, 6, 7, 8, 31, 32, 33] rfl rfl ?_
            refine twp_block ?_
            refine w_cut [(53, .d (.bool (((decide (e12.state < (0 : Int))) || (decide ((4 : Int) < e12.state))))))] [53] [2, 3, 6, 7, 8, 31, 32, 33] rfl ?_ ?_
            · refine twp_region ?_
              iterate 3 (refine s_a tab_ok rfl ?_)
              refine s_b tab_ok rfl (fun q15 hq15 => ?_)
              cases q15
              · iterate 5 (refine s_a tab_ok rfl ?_)
                refine tops_nil ?_
                refine way_then ?_
                exact ⟨[0, 1, 2], rfl, k0, st_eq (fr_cons (av_bool (by simp [hq15])) rfl) rfl⟩
              · iterate 5 (refine s_a tab_ok rfl ?_)
                refine tops_nil ?_
                refine way_then ?_
                exact ⟨[0, 1, 2], rfl, k0, st_eq (fr_cons (av_bool (by simp [hq15])) rfl) rfl⟩
            · refine w_norm [2, 3, 6, 7, 8, 31, 32, 33, 53] rfl rfl ?_
              refine twp_cond _ rfl (fun h16 => ?_) (fun h16 => ?_)
              · replace hm := iteB_T h16 hm
                refine twp_rseq ?_
                refine s_a tab_ok rfl ?_
                refine tops_nil ?_
                refine w_norm [4] rfl rfl ?_
                refine twp_ret ?_
                refine way_blockRet ?_
                refine way_blockRet ?_
                refine way_thenRet ?_
                obtain ⟨v17, hm, hz⟩ := inr_inv hm
                rw [hz10 _ hz] at hm
                refine way_thenRet ?_
                refine way_blockRet ?_
                obtain ⟨v18, hm, hz⟩ := inr_inv hm
                rw [hz7 _ hz] at hm
                refine way_thenRet ?_
                obtain rfl := Option.some.inj hm
                exact EndsS.one _ rfl (.d _) (.refl _)
              · replace hm := iteB_F h16 hm
                refine w_cut [(62, .d (.bool (((!(((decide (e12.state = (3 : Int))) || (decide (e12.state = (4 : Int)))))) && ((!(decide (e12.rel = (0 : Int)))) || (!(decide (e12.timer = (0 : Int)))))))))] [62] [2, 3, 6, 7, 31, 32, 33] rfl ?_ ?_
                · refine twp_region ?_
                  iterate 2 (refine s_a tab_ok rfl ?_)
                  refine s_b tab_ok rfl (fun q19 hq19 => ?_)
                  cases q19
                  · iterate 10 (refine s_a tab_ok rfl ?_)
                    refine tops_nil ?_
                    refine way_then ?_
                    exact ⟨[0, 1, 2], rfl, k0, st_eq (fr_cons (av_bool (by simp [hq19])) rfl) rfl⟩
                  · iterate 3 (refine s_a tab_ok rfl ?_)
                    refine s_b tab_ok rfl (fun q20 hq20 => ?_)
                    cases q20
                    · iterate 6 (refine s_a tab_ok rfl ?_)
                      refine tops_nil ?_
                      refine way_then ?_
                      exact ⟨[0, 1, 2], rfl, k0, st_eq (fr_cons (av_bool (by simp [hq19, hq20])) rfl) rfl⟩
                    · iterate 6 (refine s_a tab_ok rfl ?_)
                      refine tops_nil ?_
                      refine way_then ?_
                      exact ⟨[0, 1, 2], rfl, k0, st_eq (fr_cons (av_bool (by simp [hq19, hq20])) rfl) rfl⟩
                · refine w_norm [2, 3, 6, 7, 31, 32, 33, 62] rfl rfl ?_
                  refine twp_cond _ rfl (fun h21 => ?_) (fun h21 => ?_)
                  · replace hm := iteB_T h21 hm
                    refine twp_rseq ?_
                    refine s_a tab_ok rfl ?_
                    refine tops_nil ?_
                    refine w_norm [4] rfl rfl ?_
                    refine twp_ret ?_
                    refine way_blockRet ?_
                    refine way_blockRet ?_
                    refine way_thenRet ?_
                    obtain ⟨v22, hm, hz⟩ := inr_inv hm
                    rw [hz10 _ hz] at hm
                    refine way_thenRet ?_
                    refine way_blockRet ?_
                    obtain ⟨v23, hm, hz⟩ := inr_inv hm
                    rw [hz7 _ hz] at hm
                    refine way_thenRet ?_
                    obtain rfl := Option.some.inj hm
                    exact EndsS.one _ rfl (.d _) (.refl _)
                  · replace hm := iteB_F h21 hm
                    refine w_cut [(75, .d (.bool (((decide (e12.rel < (0 : Int))) || ((decide ((e13.sections.length : Int) ≤ e12.rel)) || (decide (e12.timer < (0 : Int))))))))] [75] [2, 3, 6, 7, 31, 32, 33] rfl ?_ ?_
                    · refine twp_region ?_
                      iterate 3 (refine s_a tab_ok rfl ?_)
                      refine s_b tab_ok rfl (fun q24 hq24 => ?_)
                      cases q24
                      · iterate 5 (refine s_a tab_ok rfl ?_)
                        refine s_b tab_ok rfl (fun q25 hq25 => ?_)
                        cases q25
                        · iterate 5 (refine s_a tab_ok rfl ?_)
                          refine tops_nil ?_
                          refine way_then ?_
                          exact ⟨[0, 1, 2], rfl, k0, st_eq (fr_cons (av_bool (by simp [hq24, hq25])) rfl) rfl⟩
                        · iterate 5 (refine s_a tab_ok rfl ?_)
                          refine tops_nil ?_
                          refine way_then ?_
                          exact ⟨[0, 1, 2], rfl, k0, st_eq (fr_cons (av_bool (by simp [hq24, hq25])) rfl) rfl⟩
                      · iterate 11 (refine s_a tab_ok rfl ?_)
                        refine tops_nil ?_
                        refine way_then ?_
                        exact ⟨[0, 1, 2], rfl, k0, st_eq (fr_cons (av_bool (by simp [hq24])) rfl) rfl⟩
                    · refine w_norm [2, 3, 6, 7, 31, 32, 33, 75] rfl rfl ?_
                      refine twp_cond _ rfl (fun h26 => ?_) (fun h26 => ?_)
                      · replace hm := iteB_T h26 hm
                        refine twp_rseq ?_
                        refine s_a tab_ok rfl ?_
                        refine tops_nil ?_
                        refine w_norm [4] rfl rfl ?_
                        refine twp_ret ?_
                        refine way_blockRet ?_
                        refine way_blockRet ?_
                        refine way_thenRet ?_
                        obtain ⟨v27, hm, hz⟩ := inr_inv hm
                        rw [hz10 _ hz] at hm
                        refine way_thenRet ?_
                        refine way_blockRet ?_
                        obtain ⟨v28, hm, hz⟩ := inr_inv hm
                        rw [hz7 _ hz] at hm
                        refine way_thenRet ?_
                        obtain rfl := Option.some.inj hm
                        exact EndsS.one _ rfl (.d _) (.refl _)
                      · replace hm := iteB_F h26 hm
                        refine w_joinM hm (fun x29 => ([(90, .d (.bool (x29)))] : Fr)) (fun x29 => ([] : List (Nat × Blk))) [90] [2, 3, 6, 31, 32, 33] rfl (fun z30 hm => ?_) (fun x29 hm => ?_)
                        · refine twp_region ?_
                          iterate 3 (refine s_a tab_ok rfl ?_)
                          refine s_b tab_ok rfl (fun q31 hq31 => ?_)
                          cases q31
                          · replace hm := ite_F hq31 hm
                            iterate 17 (refine s_a tab_ok rfl ?_)
                            refine tops_nil ?_
                            refine way_then ?_
                            exact ⟨_, [0, 1, 2], (Option.some.inj hm).symm, rfl, k0, rfl⟩
                          · replace hm := ite_T hq31 hm
                            iterate 4 (refine s_a tab_ok rfl ?_)
                            refine s_b tab_ok rfl (fun q32 hq32 => ?_)
                            cases q32
                            · replace hm := ite_F hq32 hm
                              iterate 12 (refine s_a tab_ok rfl ?_)
                              refine tops_nil ?_
                              refine way_then ?_
                              exact ⟨_, [0, 1, 2], (Option.some.inj hm).symm, rfl, k0, rfl⟩
                            · replace hm := ite_T hq32 hm
                              iterate 3 (refine s_a tab_ok rfl ?_)
                              obtain ⟨g33, hm⟩ := guard_inv hm
                              refine s_x rfl rfl (x_ar rfl rfl rfl rfl g33) ?_
                              refine s_a tab_ok rfl ?_
                              refine s_b tab_ok rfl (fun q34 hq34 => ?_)
                              cases q34
                              · replace hm := iteN_F hq34 hm
                                iterate 6 (refine s_a tab_ok rfl ?_)
                                refine tops_nil ?_
                                refine way_then ?_
                                exact ⟨_, [0, 1, 2], (Option.some.inj hm).symm, rfl, k0, rfl⟩
                              · replace hm := iteN_T hq34 hm
                                iterate 6 (refine s_a tab_ok rfl ?_)
                                refine tops_nil ?_
                                refine way_then ?_
                                exact ⟨_, [0, 1, 2], (Option.some.inj hm).symm, rfl, k0, rfl⟩
                        · refine w_norm [2, 3, 6, 31, 32, 33, 90] rfl rfl ?_
                          refine twp_cond _ rfl (fun h35 => ?_) (fun h35 => ?_)
                          · replace hm := iteB_T h35 hm
                            refine twp_rseq ?_
                            refine s_a tab_ok rfl ?_
                            refine tops_nil ?_
                            refine w_norm [4] rfl rfl ?_
                            refine twp_ret ?_
                            refine way_blockRet ?_
                            refine way_blockRet ?_
                            refine way_thenRet ?_
                            obtain ⟨v36, hm, hz⟩ := inr_inv hm
                            rw [hz10 _ hz] at hm
                            refine way_thenRet ?_
                            refine way_blockRet ?_
                            obtain ⟨v37, hm, hz⟩ := inr_inv hm
                            rw [hz7 _ hz] at hm
                            refine way_thenRet ?_
                            obtain rfl := Option.some.inj hm
                            exact EndsS.one _ rfl (.d _) (.refl _)
                          · replace hm := iteB_F h35 hm
                            refine w_cut [(111, .d (.bool (((decide (e12.state = (4 : Int))) && (decide ((12 : Int) ≤ e12.timer))))))] [111] [2, 3, 31, 32, 33] rfl ?_ ?_
                            · refine twp_region ?_
                              iterate 3 (refine s_a tab_ok rfl ?_)
                              refine s_b tab_ok rfl (fun q38 hq38 => ?_)
                              cases q38
                              · iterate 5 (refine s_a tab_ok rfl ?_)
                                refine tops_nil ?_
                                refine way_then ?_
                                exact ⟨[0, 1, 2], rfl, k0, st_eq (fr_cons (av_bool (by simp [hq38])) rfl) rfl⟩
                              · iterate 5 (refine s_a tab_ok rfl ?_)
                                refine tops_nil ?_
                                refine way_then ?_
                                exact ⟨[0, 1, 2], rfl, k0, st_eq (fr_cons (av_bool (by simp [hq38])) rfl) rfl⟩
                            · refine w_norm [2, 3, 31, 32, 33, 111] rfl rfl ?_
                              refine twp_cond _ rfl (fun h39 => ?_) (fun h39 => ?_)
                              · replace hm := iteB_T h39 hm
                                refine twp_rseq ?_
                                refine s_a tab_ok rfl ?_
                                refine tops_nil ?_
                                refine w_norm [4] rfl rfl ?_
                                refine twp_ret ?_
                                refine way_blockRet ?_
                                refine way_blockRet ?_
                                refine way_thenRet ?_
                                obtain ⟨v40, hm, hz⟩ := inr_inv hm
                                rw [hz10 _ hz] at hm
                                refine way_thenRet ?_
                                refine way_blockRet ?_
                                obtain ⟨v41, hm, hz⟩ := inr_inv hm
                                rw [hz7 _ hz] at hm
                                refine way_thenRet ?_
                                obtain rfl := Option.some.inj hm
                                exact EndsS.one _ rfl (.d _) (.refl _)
                              · replace hm := iteB_F h39 hm
                                refine twp_skip ?_
                                refine way_block ?_
                                refine way_block ?_
                                refine way_then ?_
                                refine w_norm [2, 3, 31, 32, 33] rfl rfl ?_
                                refine twp_region ?_
                                obtain ⟨g42, hm⟩ := guard_inv hm
                                refine s_x rfl rfl (x_ar rfl rfl rfl rfl g42) ?_
                                refine s_a tab_ok rfl ?_
                                refine tops_nil ?_
                                refine way_then ?_
                                exact ⟨_, [0, 1], (Option.some.inj hm).symm, rfl, k0, rfl⟩
        · replace hm := ite_F h11 hm
          refine twp_exit ?_
          refine way_thenExit ?_
          obtain ⟨v43, hm, hz⟩ := inr_inv hm
          rw [hz10 _ hz] at hm
          refine way_thenExit ?_
          refine way_here ?_
          refine way_then ?_
          exact ⟨_, [0, 1], (Option.some.inj hm).symm, rfl, k0, rfl⟩
      · refine w_norm [3] rfl rfl ?_
        refine twp_rseq ?_
        iterate 2 (refine s_a tab_ok rfl ?_)
        obtain ⟨r44, hr44, hm⟩ := bind_inv hm
        refine s_x rfl rfl (rd_callRN rfl rfl (snaps_cons (.d _) (snaps_cons (.d _) snaps_nil)) (slices_ContainsFunc_int_c (fun _ r h => ⟨47, _, rfl, (progress_fits_c1_c h).retD⟩) hr44)) ?_
        iterate 2 (refine s_a tab_ok rfl ?_)
        refine tops_nil ?_
        refine w_norm [4] rfl rfl ?_
        refine twp_ret ?_
        obtain rfl := Option.some.inj hm
        exact EndsS.one _ rfl (.d _) (.refl _)

theorem slices_Contains_int_c {p0 : (List Int)} {p1 : Int} {r : Bool} (hm : slices_Contains_int p0 p1 = some r) : RetN Try.prog 26 [.sl 1 (p0.map (D.int .i64)), .int .i64 p1] (.bool (r)) := by
  refine .unit (ret_bodyS callB26 Try.func26 rfl Try.ntmps26 rfl rfl (fun wX gX => ?_)) rfl
  unfold slices_Contains_int at hm
  refine w_norm [0, 1] rfl rfl ?_
  refine twp_rseq ?_
  refine s_a tab_ok rfl ?_
  refine tops_nil ?_
  refine w_norm [0, 1] rfl rfl ?_
  refine twp_rseq ?_
  iterate 2 (refine s_a tab_ok rfl ?_)
  obtain ⟨r1, hr1, hm⟩ := bind_inv hm
  refine s_x rfl rfl (rd_callRN rfl rfl (snaps_cons (.d _) (snaps_cons (.d _) snaps_nil)) (slices_Index_int_c hr1)) ?_
  iterate 2 (refine s_a tab_ok rfl ?_)
  refine tops_nil ?_
  refine w_norm [4] rfl rfl ?_
  refine twp_ret ?_
  obtain rfl := Option.some.inj hm
  exact EndsS.one _ rfl (.d _) (.refl _)

theorem locks_routeFits_c {p0 : RouteState} {p1 : Int} {r : Bool} (hm : locks_routeFits p0 p1 = some r) : RetN Try.prog 76 [p0.enc, .int .i64 p1] (.bool (r)) := by
  refine .unit (ret_bodyS callB76 Try.func76 rfl Try.ntmps76 rfl rfl (fun wX gX => ?_)) rfl
  unfold locks_routeFits at hm
  refine w_norm [0, 1] rfl rfl ?_
  refine twp_rseq ?_
  refine s_bx 0 rfl rfl rfl ?_
  refine s_a tab_ok rfl ?_
  refine tops_nil ?_
  refine w_norm [1, 2] rfl rfl ?_
  refine twp_seq ?_
  refine twp_rseq ?_
  iterate 2 (refine s_a tab_ok rfl ?_)
  refine tops_nil ?_
  refine w_norm [1, 2, 6] rfl rfl ?_
  refine twp_block ?_
  refine w_joinM hm (fun x1 => ([(7, .d (.bool (x1)))] : Fr)) (fun x1 => ([] : List (Nat × Blk))) [7] [1, 2, 6] rfl (fun z2 hm => ?_) (fun x1 hm => ?_)
  · refine twp_rseq ?_
    iterate 2 (refine s_a tab_ok rfl ?_)
    refine tops_nil ?_
    refine w_norm [1, 2, 6, 7] rfl rfl ?_
    refine twp_cond _ rfl (fun h3 => ?_) (fun h3 => ?_)
    · replace hm := ite_T h3 hm
      refine twp_skip ?_
      refine way_then ?_
      exact ⟨_, [0], (Option.some.inj hm).symm, rfl, k0, rfl⟩
    · replace hm := ite_F h3 hm
      refine twp_rseq ?_
      iterate 2 (refine s_a tab_ok rfl ?_)
      refine tops_nil ?_
      refine w_norm [1, 2, 6, 7] rfl rfl ?_
      refine twp_cond _ rfl (fun h4 => ?_) (fun h4 => ?_)
      · replace hm := ite_T h4 hm
        refine twp_skip ?_
        refine way_then ?_
        exact ⟨_, [0], (Option.some.inj hm).symm, rfl, k0, rfl⟩
      · replace hm := ite_F h4 hm
        refine twp_region ?_
        iterate 2 (refine s_a tab_ok rfl ?_)
        refine tops_nil ?_
        refine way_then ?_
        exact ⟨_, [0], (Option.some.inj hm).symm, rfl, k0, rfl⟩
  · refine w_norm [1, 2, 6, 7] rfl rfl ?_
    refine twp_cond _ rfl (fun h5 => ?_) (fun h5 => ?_)
    · replace hm := iteB_T h5 hm
      refine w_cut [(4, .d (.bool (((decide (p0.rel = (0 : Int))) && (decide (p0.timer = (0 : Int)))))))] [4] [] rfl ?_ ?_
      · refine twp_region ?_
        iterate 3 (refine s_a tab_ok rfl ?_)
        refine s_b tab_ok rfl (fun q6 hq6 => ?_)
        cases q6
        · iterate 5 (refine s_a tab_ok rfl ?_)
          refine tops_nil ?_
          refine way_then ?_
          exact ⟨[0], rfl, k0, st_eq (fr_cons (av_bool (by simp [hq6])) rfl) rfl⟩
        · iterate 5 (refine s_a tab_ok rfl ?_)
          refine tops_nil ?_
          refine way_then ?_
          exact ⟨[0], rfl, k0, st_eq (fr_cons (av_bool (by simp [hq6])) rfl) rfl⟩
      · refine w_norm [4] rfl rfl ?_
        refine twp_ret ?_
        refine way_blockRet ?_
        refine way_thenRet ?_
        obtain rfl := Option.some.inj hm
        exact EndsS.one _ rfl (.d _) (.refl _)
    · replace hm := iteB_F h5 hm
      refine twp_rseq ?_
      iterate 2 (refine s_a tab_ok rfl ?_)
      refine tops_nil ?_
      refine w_norm [1, 2, 6, 19] rfl rfl ?_
      refine twp_cond _ rfl (fun h7 => ?_) (fun h7 => ?_)
      · replace hm := ite_T h7 hm
        refine twp_seq ?_
        refine w_cut [(29, .d (.bool (((decide (p0.rel < (0 : Int))) || (decide (p1 ≤ p0.rel))))))] [29] [1, 2] rfl ?_ ?_
        · refine twp_region ?_
          iterate 3 (refine s_a tab_ok rfl ?_)
          refine s_b tab_ok rfl (fun q8 hq8 => ?_)
          cases q8
          · iterate 5 (refine s_a tab_ok rfl ?_)
            refine tops_nil ?_
            refine way_then ?_
            exact ⟨[0], rfl, k0, st_eq (fr_cons (av_bool (by simp [hq8])) rfl) rfl⟩
          · iterate 5 (refine s_a tab_ok rfl ?_)
            refine tops_nil ?_
            refine way_then ?_
            exact ⟨[0], rfl, k0, st_eq (fr_cons (av_bool (by simp [hq8])) rfl) rfl⟩
        · refine w_norm [1, 2, 29] rfl rfl ?_
          refine twp_cond _ rfl (fun h9 => ?_) (fun h9 => ?_)
          · replace hm := iteB_T h9 hm
            refine twp_rseq ?_
            refine s_a tab_ok rfl ?_
            refine tops_nil ?_
            refine w_norm [4] rfl rfl ?_
            refine twp_ret ?_
            refine way_thenRet ?_
            refine way_blockRet ?_
            refine way_thenRet ?_
            obtain rfl := Option.some.inj hm
            exact EndsS.one _ rfl (.d _) (.refl _)
          · replace hm := iteB_F h9 hm
            refine twp_skip ?_
            refine way_then ?_
            refine w_norm [1, 2] rfl rfl ?_
            refine w_joinM hm (fun x10 => ([(4, .d (.bool (x10)))] : Fr)) (fun x10 => ([] : List (Nat × Blk))) [4] [] rfl (fun z11 hm => ?_) (fun x10 hm => ?_)
            · refine twp_region ?_
              iterate 3 (refine s_a tab_ok rfl ?_)
              refine s_b tab_ok rfl (fun q12 hq12 => ?_)
              cases q12
              · replace hm := ite_F hq12 hm
                iterate 3 (refine s_a tab_ok rfl ?_)
                obtain ⟨g13, hm⟩ := guard_inv hm
                refine s_x rfl rfl (x_ar rfl rfl rfl rfl g13) ?_
                refine s_a tab_ok rfl ?_
                refine s_b tab_ok rfl (fun q14 hq14 => ?_)
                cases q14
                · replace hm := ite_F hq14 hm
                  iterate 11 (refine s_a tab_ok rfl ?_)
                  refine tops_nil ?_
                  refine way_then ?_
                  exact ⟨_, [0], (Option.some.inj hm).symm, rfl, k0, rfl⟩
                · replace hm := ite_T hq14 hm
                  iterate 4 (refine s_a tab_ok rfl ?_)
                  refine s_b tab_ok rfl (fun q15 hq15 => ?_)
                  cases q15
                  · replace hm := ite_F hq15 hm
                    iterate 6 (refine s_a tab_ok rfl ?_)
                    refine tops_nil ?_
                    refine way_then ?_
                    exact ⟨_, [0], (Option.some.inj hm).symm, rfl, k0, rfl⟩
                  · replace hm := ite_T hq15 hm
                    iterate 6 (refine s_a tab_ok rfl ?_)
                    refine tops_nil ?_
                    refine way_then ?_
                    exact ⟨_, [0], (Option.some.inj hm).symm, rfl, k0, rfl⟩
              · replace hm := ite_T hq12 hm
                iterate 17 (refine s_a tab_ok rfl ?_)
                refine tops_nil ?_
                refine way_then ?_
                exact ⟨_, [0], (Option.some.inj hm).symm, rfl, k0, rfl⟩
            · refine w_norm [4] rfl rfl ?_
              refine twp_ret ?_
              refine way_blockRet ?_
              refine way_thenRet ?_
              obtain rfl := Option.some.inj hm
              exact EndsS.one _ rfl (.d _) (.refl _)
      · replace hm := ite_F h7 hm
        refine twp_rseq ?_
        iterate 2 (refine s_a tab_ok rfl ?_)
        refine tops_nil ?_
        refine w_norm [1, 2, 50] rfl rfl ?_
        refine twp_cond _ rfl (fun h16 => ?_) (fun h16 => ?_)
        · replace hm := ite_T h16 hm
          refine w_cut [(4, .d (.bool (((decide ((0 : Int) ≤ p0.rel)) && ((decide (p0.rel < p1)) && ((decide ((0 : Int) ≤ p0.timer)) && (decide (p0.timer < (12 : Int)))))))))] [4] [] rfl ?_ ?_
          · refine twp_region ?_
            iterate 3 (refine s_a tab_ok rfl ?_)
            refine s_b tab_ok rfl (fun q17 hq17 => ?_)
            cases q17
            · iterate 16 (refine s_a tab_ok rfl ?_)
              refine tops_nil ?_
              refine way_then ?_
              exact ⟨[0], rfl, k0, st_eq (fr_cons (av_bool (by simp [hq17])) rfl) rfl⟩
            · iterate 5 (refine s_a tab_ok rfl ?_)
              refine s_b tab_ok rfl (fun q18 hq18 => ?_)
              cases q18
              · iterate 10 (refine s_a tab_ok rfl ?_)
                refine tops_nil ?_
                refine way_then ?_
                exact ⟨[0], rfl, k0, st_eq (fr_cons (av_bool (by simp [hq17, hq18])) rfl) rfl⟩
              · iterate 4 (refine s_a tab_ok rfl ?_)
                refine s_b tab_ok rfl (fun q19 hq19 => ?_)
                cases q19
                · iterate 5 (refine s_a tab_ok rfl ?_)
                  refine tops_nil ?_
                  refine way_then ?_
                  exact ⟨[0], rfl, k0, st_eq (fr_cons (av_bool (by simp [hq17, hq18, hq19])) rfl) rfl⟩
                · iterate 5 (refine s_a tab_ok rfl ?_)
                  refine tops_nil ?_
                  refine way_then ?_
                  exact ⟨[0], rfl, k0, st_eq (fr_cons (av_bool (by simp [hq17, hq18, hq19])) rfl) rfl⟩
          · refine w_norm [4] rfl rfl ?_
            refine twp_ret ?_
            refine way_blockRet ?_
            refine way_thenRet ?_
            obtain rfl := Option.some.inj hm
            exact EndsS.one _ rfl (.d _) (.refl _)
        · replace hm := ite_F h16 hm
          refine twp_skip ?_
          refine way_block ?_
          refine way_then ?_
          refine w_norm [] rfl rfl ?_
          refine twp_rseq ?_
          refine s_a tab_ok rfl ?_
          refine tops_nil ?_
          refine w_norm [4] rfl rfl ?_
          refine twp_ret ?_
          obtain rfl := Option.some.inj hm
          exact EndsS.one _ rfl (.d _) (.refl _)

theorem locks_fits_c {p0 : Table} {p1 : Inter} {r : Bool} (hm : locks_fits p0 p1 = some r) : RetN Try.prog 66 [p0.enc, p1.enc] (.bool (r)) := by
  refine .unit (ret_bodyS callB66 Try.func66 rfl Try.ntmps66 rfl rfl (fun wX gX => ?_)) rfl
  unfold locks_fits at hm
  refine w_norm [0, 1] rfl rfl ?_
  refine twp_rseq ?_
  refine s_bx 0 rfl rfl rfl ?_
  refine s_bx 1 rfl rfl rfl ?_
  refine s_a tab_ok rfl ?_
  refine tops_nil ?_
  refine w_norm [2, 3] rfl rfl ?_
  refine twp_seq ?_
  refine w_joinM hm (fun x1 => ([(29, .d (.bool (x1)))] : Fr)) (fun x1 => ([] : List (Nat × Blk))) [29] [2, 3] rfl (fun z2 hm => ?_) (fun x1 hm => ?_)
  · refine twp_region ?_
    refine s_a tab_ok rfl ?_
    obtain ⟨r3, hr3, hm⟩ := bind_inv hm
    refine s_x rfl rfl (rd_callRN rfl rfl (snaps_cons (.d _) snaps_nil) (table_Check_c hr3)) ?_
    refine s_a tab_ok rfl ?_
    refine s_b tab_ok rfl (fun q4 hq4 => ?_)
    cases q4
    · replace hm := iteN_F hq4 hm
      iterate 2 (refine s_a tab_ok rfl ?_)
      refine s_x rfl rfl (x_len tab_ok rfl rfl rfl) ?_
      iterate 2 (refine s_a tab_ok rfl ?_)
      refine s_x rfl rfl (x_len tab_ok rfl rfl rfl) ?_
      iterate 2 (refine s_a tab_ok rfl ?_)
      refine s_b tab_ok rfl (fun q5 hq5 => ?_)
      cases q5
      · replace hm := iteN_F hq5 hm
        iterate 2 (refine s_a tab_ok rfl ?_)
        refine s_x rfl rfl (x_len tab_ok rfl rfl rfl) ?_
        iterate 2 (refine s_a tab_ok rfl ?_)
        refine s_x rfl rfl (x_len tab_ok rfl rfl rfl) ?_
        iterate 2 (refine s_a tab_ok rfl ?_)
        refine tops_nil ?_
        refine way_then ?_
        exact ⟨_, [0, 1], (Option.some.inj hm).symm, rfl, k0, rfl⟩
      · replace hm := iteN_T hq5 hm
        iterate 8 (refine s_a tab_ok rfl ?_)
        refine tops_nil ?_
        refine way_then ?_
        exact ⟨_, [0, 1], (Option.some.inj hm).symm, rfl, k0, rfl⟩
    · replace hm := iteN_T hq4 hm
      iterate 17 (refine s_a tab_ok rfl ?_)
      refine tops_nil ?_
      refine way_then ?_
      exact ⟨_, [0, 1], (Option.some.inj hm).symm, rfl, k0, rfl⟩
  · refine w_norm [2, 3, 29] rfl rfl ?_
    refine twp_cond _ rfl (fun h6 => ?_) (fun h6 => ?_)
    · replace hm := iteB_T h6 hm
      refine twp_rseq ?_
      refine s_a tab_ok rfl ?_
      refine tops_nil ?_
      refine w_norm [4] rfl rfl ?_
      refine twp_ret ?_
      refine way_thenRet ?_
      obtain rfl := Option.some.inj hm
      exact EndsS.one _ rfl (.d _) (.refl _)
    · replace hm := iteB_F h6 hm
      refine twp_skip ?_
      refine way_then ?_
      refine w_norm [2, 3] rfl rfl ?_
      refine w_joinS hm (fun _ => ([] : Fr)) (fun _ => ([] : List (Nat × Blk))) [] [3] rfl (fun z7 hm hz7 => ?_) (fun j hm => ?_)
      · refine twp_rseq ?_
        iterate 2 (refine s_a tab_ok rfl ?_)
        refine s_x rfl rfl (x_len tab_ok rfl rfl rfl) ?_
        refine s_a tab_ok rfl ?_
        refine tops_nil ?_
        refine w_norm [2, 3, 31, 32, 33] rfl rfl ?_
        refine twp_block ?_
        refine w_loop hm (fun x9 => ([(33, .d (.int .i64 x9))] : Fr)) (fun x9 => ([] : List (Nat × Blk))) [33] [2, 3, 31, 32] [0, 1] rfl k0 rfl rfl rfl rfl rfl (fun x9 z10 hm hz10 => ?_)
        refine w_norm [2, 3, 31, 32, 33] rfl rfl ?_
        refine twp_rseq ?_
        refine s_a tab_ok rfl ?_
        refine tops_nil ?_
        refine w_norm [2, 3, 31, 32, 33, 34] rfl rfl ?_
        refine twp_seq ?_
        refine twp_cond _ rfl (fun h11 => ?_) (fun h11 => ?_)
        · replace hm := ite_T h11 hm
          refine twp_skip ?_
          refine way_then ?_
          refine w_norm [2, 3, 31, 32, 33] rfl rfl ?_
          refine twp_seq ?_
          refine twp_block ?_
          refine twp_rseq ?_
          refine s_a tab_ok rfl ?_
          obtain ⟨e12, he12, hm⟩ := get_inv hm
          refine s_x rfl rfl (x_ix tab_ok rfl rfl rfl rfl he12) ?_
          refine s_a tab_ok rfl ?_
          refine s_al 2 rfl rfl zero36 rfl ?_
          iterate 2 (refine s_a tab_ok rfl ?_)
          refine tops_nil ?_
          refine w_norm [2, 3, 5, 6, 31, 32, 33] rfl rfl ?_
          refine twp_dseq follows  ?_
          iterate 4 (refine d_a [0, 1, 2] tab_ok rfl ?_)
          obtain ⟨e13, he13, hm⟩ := get_inv hm
          refine d_x [0, 1, 2] rfl rfl (x_ix tab_ok rfl rfl rfl rfl he13) ?_
          iterate 2 (refine d_a [0, 1, 2] tab_ok rfl ?_)
          refine d_x [0, 1, 2] rfl rfl (x_len tab_ok rfl rfl rfl) ?_
          obtain ⟨r14, hr14, hm⟩ := bind_inv hm
          refine d_x [0, 1, 2] rfl rfl (rd_callRN rfl rfl (snaps_cons (.d _) (snaps_cons (.d _) snaps_nil)) (locks_routeFits_c hr14)) ?_
          refine d_a [0, 1, 2] tab_ok rfl ?_
          refine d_tail ?_ (by kernel_rfl)
          refine tops_nil ?_
          refine w_norm [2, 3, 31, 32, 33, 47] rfl rfl ?_
          refine twp_cond _ rfl (fun h15 => ?_) (fun h15 => ?_)
          · replace hm := iteB_T h15 hm
            refine twp_rseq ?_
            refine s_a tab_ok rfl ?_
            refine tops_nil ?_
            refine w_norm [4] rfl rfl ?_
            refine twp_ret ?_
            refine way_blockRet ?_
            refine way_thenRet ?_
            obtain ⟨v16, hm, hz⟩ := inr_inv hm
            rw [hz10 _ hz] at hm
            refine way_thenRet ?_
            refine way_blockRet ?_
            obtain ⟨v17, hm, hz⟩ := inr_inv hm
            rw [hz7 _ hz] at hm
            refine way_thenRet ?_
            obtain rfl := Option.some.inj hm
            exact EndsS.one _ rfl (.d _) (.refl _)
          · replace hm := iteB_F h15 hm
            refine twp_skip ?_
            refine way_block ?_
            refine way_then ?_
            refine w_norm [2, 3, 31, 32, 33] rfl rfl ?_
            refine twp_region ?_
            obtain ⟨g18, hm⟩ := guard_inv hm
            refine s_x rfl rfl (x_ar rfl rfl rfl rfl g18) ?_
            refine s_a tab_ok rfl ?_
            refine tops_nil ?_
            refine way_then ?_
            exact ⟨_, [0, 1], (Option.some.inj hm).symm, rfl, k0, rfl⟩
        · replace hm := ite_F h11 hm
          refine twp_exit ?_
          refine way_thenExit ?_
          obtain ⟨v19, hm, hz⟩ := inr_inv hm
          rw [hz10 _ hz] at hm
          refine way_thenExit ?_
          refine way_here ?_
          refine way_then ?_
          exact ⟨_, [0, 1], (Option.some.inj hm).symm, rfl, k0, rfl⟩
      · refine w_norm [3] rfl rfl ?_
        refine w_joinS hm (fun _ => ([] : Fr)) (fun _ => ([] : List (Nat × Blk))) [] [] rfl (fun z20 hm hz20 => ?_) (fun j hm => ?_)
        · refine twp_rseq ?_
          iterate 2 (refine s_a tab_ok rfl ?_)
          refine s_x rfl rfl (x_len tab_ok rfl rfl rfl) ?_
          refine s_a tab_ok rfl ?_
          refine tops_nil ?_
          refine w_norm [50, 51, 52] rfl rfl ?_
          refine twp_block ?_
          refine w_loop hm (fun x22 => ([(52, .d (.int .i64 x22))] : Fr)) (fun x22 => ([] : List (Nat × Blk))) [52] [50, 51] [0, 1] rfl k0 rfl rfl rfl rfl rfl (fun x22 z23 hm hz23 => ?_)
          refine w_norm [50, 51, 52] rfl rfl ?_
          refine twp_rseq ?_
          refine s_a tab_ok rfl ?_
          refine tops_nil ?_
          refine w_norm [50, 51, 52, 53] rfl rfl ?_
          refine twp_seq ?_
          refine twp_cond _ rfl (fun h24 => ?_) (fun h24 => ?_)
          · replace hm := ite_T h24 hm
            refine twp_skip ?_
            refine way_then ?_
            refine w_norm [50, 51, 52] rfl rfl ?_
            refine twp_seq ?_
            refine twp_block ?_
            refine twp_rseq ?_
            obtain ⟨e25, he25, hm⟩ := get_inv hm
            refine s_x rfl rfl (x_ix tab_ok rfl rfl rfl rfl he25) ?_
            iterate 2 (refine s_a tab_ok rfl ?_)
            refine tops_nil ?_
            refine w_norm [8, 50, 51, 52] rfl rfl ?_
            refine w_cut [(61, .d (.bool (((!(decide (e25 = (1 : Int)))) && (!(decide (e25 = (2 : Int))))))))] [61] [50, 51, 52] rfl ?_ ?_
            · refine twp_region ?_
              iterate 2 (refine s_a tab_ok rfl ?_)
              refine s_b tab_ok rfl (fun q26 hq26 => ?_)
              cases q26
              · iterate 3 (refine s_a tab_ok rfl ?_)
                refine tops_nil ?_
                refine way_then ?_
                exact ⟨[0, 1], rfl, k0, st_eq (fr_cons (av_bool (by simp [hq26])) rfl) rfl⟩
              · iterate 3 (refine s_a tab_ok rfl ?_)
                refine tops_nil ?_
                refine way_then ?_
                exact ⟨[0, 1], rfl, k0, st_eq (fr_cons (av_bool (by simp [hq26])) rfl) rfl⟩
            · refine w_norm [50, 51, 52, 61] rfl rfl ?_
              refine twp_cond _ rfl (fun h27 => ?_) (fun h27 => ?_)
              · replace hm := iteB_T h27 hm
                refine twp_rseq ?_
                refine s_a tab_ok rfl ?_
                refine tops_nil ?_
                refine w_norm [4] rfl rfl ?_
                refine twp_ret ?_
                refine way_blockRet ?_
                refine way_thenRet ?_
                obtain ⟨v28, hm, hz⟩ := inr_inv hm
                rw [hz23 _ hz] at hm
                refine way_thenRet ?_
                refine way_blockRet ?_
                obtain ⟨v29, hm, hz⟩ := inr_inv hm
                rw [hz20 _ hz] at hm
                refine way_thenRet ?_
                obtain rfl := Option.some.inj hm
                exact EndsS.one _ rfl (.d _) (.refl _)
              · replace hm := iteB_F h27 hm
                refine twp_skip ?_
                refine way_block ?_
                refine way_then ?_
                refine w_norm [50, 51, 52] rfl rfl ?_
                refine twp_region ?_
                obtain ⟨g30, hm⟩ := guard_inv hm
                refine s_x rfl rfl (x_ar rfl rfl rfl rfl g30) ?_
                refine s_a tab_ok rfl ?_
                refine tops_nil ?_
                refine way_then ?_
                exact ⟨_, [0, 1], (Option.some.inj hm).symm, rfl, k0, rfl⟩
          · replace hm := ite_F h24 hm
            refine twp_exit ?_
            refine way_thenExit ?_
            obtain ⟨v31, hm, hz⟩ := inr_inv hm
            rw [hz23 _ hz] at hm
            refine way_thenExit ?_
            refine way_here ?_
            refine way_then ?_
            exact ⟨_, [0, 1], (Option.some.inj hm).symm, rfl, k0, rfl⟩
        · refine w_norm [] rfl rfl ?_
          refine twp_rseq ?_
          refine s_a tab_ok rfl ?_
          refine tops_nil ?_
          refine w_norm [4] rfl rfl ?_
          refine twp_ret ?_
          obtain rfl := Option.some.inj hm
          exact EndsS.one _ rfl (.d _) (.refl _)

end Go.Proofs.Ytkhdhopgiooloaa

set_option maxHeartbeats 400000
set_option linter.unusedSimpArgs false
set_option linter.unusedVariables false
set_option maxRecDepth 20000
namespace Go.Proofs.Ytkhdhopgiooloaa
open Go Go.TL

theorem slices_Clone_int_c {p0 : (List Int)} {r : (List Int)} (hm : slices_Clone_int p0 = some r) : RetD Try.prog 77 [.sl 1 (p0.map (D.int .i64))] (.sl 1 (r.map (D.int .i64))) := by
  refine .of (mv := fun _ => false) (ret_bodyS callB77 Try.func77 rfl Try.ntmps77 rfl rfl (fun wX gX => ?_))
  unfold slices_Clone_int at hm
  refine w_norm [0] rfl rfl ?_
  refine twp_rseq ?_
  refine s_a tab_ok rfl ?_
  refine tops_nil ?_
  refine w_norm [0] rfl rfl ?_
  refine twp_seq ?_
  refine twp_rseq ?_
  refine s_a tab_ok rfl ?_
  refine s_eqNil rfl Try.underlying23 rfl rfl (fun b1 hb1 => ?_)
  refine tops_nil ?_
  refine w_norm [0, 4] rfl rfl ?_
  refine twp_cond _ rfl (fun h2 => ?_) (fun h2 => ?_)
  · obtain ⟨hnb1, hm⟩ := nil_T (hb1 h2) hm
    subst hnb1
    refine twp_rseq ?_
    refine s_a tab_ok rfl ?_
    refine tops_nil ?_
    refine c_wk 2 [some 1] rfl ?_
    refine w_norm [2] rfl rfl ?_
    refine twp_ret ?_
    refine way_thenRet ?_
    obtain rfl := Option.some.inj hm
    exact EndsS.one _ rfl (.d _) (.refl _)
  · replace hm := nil_F hm
    refine twp_skip ?_
    refine way_then ?_
    refine w_norm [0] rfl rfl ?_
    refine twp_rseq ?_
    refine s_litO (f := (D.int .i64)) 0 [] ([] : List Int) tab_ok rfl rfl rfl zero3 rfl rfl rfl rfl rfl ?_
    refine s_a tab_ok rfl ?_
    obtain ⟨g3, hm⟩ := guard_inv hm
    refine s_app (f := (D.int .i64)) p0 tab_ok rfl rfl zero3 rfl rfl rfl rfl rfl (fun h => absurd h (Nat.not_lt_zero _)) rfl src_d g3 rfl rfl ?_
    refine s_a tab_ok rfl ?_
    refine tops_nil ?_
    refine w_norm [2] rfl rfl ?_
    refine twp_ret ?_
    obtain rfl := Option.some.inj hm
    exact EndsS.one _ rfl (snap_map rfl) (.refl _)

theorem locks_path_c {p0 : Route} {p1 : RouteState} {r : (List Int)} (hm : locks_path p0 p1 = some r) : RetD Try.prog 67 [p0.enc, p1.enc] (.sl 1 (r.map (D.int .i64))) := by
  refine .of (mv := fun _ => false) (ret_bodyS callB67 Try.func67 rfl Try.ntmps67 rfl rfl (fun wX gX => ?_))
  unfold locks_path at hm
  refine w_norm [0, 1] rfl rfl ?_
  refine twp_rseq ?_
  refine s_bx 0 rfl rfl rfl ?_
  refine s_bx 1 rfl rfl rfl ?_
  refine s_a tab_ok rfl ?_
  refine tops_nil ?_
  refine w_norm [2, 3] rfl rfl ?_
  refine twp_seq ?_
  refine twp_rseq ?_
  iterate 3 (refine s_a tab_ok rfl ?_)
  refine tops_nil ?_
  refine w_norm [2, 3, 7] rfl rfl ?_
  refine twp_cond _ rfl (fun h1 => ?_) (fun h1 => ?_)
  · replace hm := ite_T h1 hm
    refine twp_rseq ?_
    refine s_a tab_ok rfl ?_
    refine tops_nil ?_
    refine c_wk 4 [some 1] rfl ?_
    refine w_norm [4] rfl rfl ?_
    refine twp_ret ?_
    refine way_thenRet ?_
    obtain rfl := Option.some.inj hm
    exact EndsS.one _ rfl (.d _) (.refl _)
  · replace hm := ite_F h1 hm
    refine twp_skip ?_
    refine way_then ?_
    refine w_norm [2, 3] rfl rfl ?_
    refine twp_rseq ?_
    iterate 4 (refine s_a tab_ok rfl ?_)
    obtain ⟨g2, hm⟩ := guard_inv hm
    refine s_x rfl rfl (x_cut tab_ok rfl rfl rfl rfl rfl g2) ?_
    obtain ⟨r3, hr3, hm⟩ := bind_inv hm
    refine s_x rfl rfl (rd_callRD rfl rfl rfl (slices_Clone_int_c hr3)) ?_
    refine s_a tab_ok rfl ?_
    refine tops_nil ?_
    refine w_norm [4] rfl rfl ?_
    refine twp_ret ?_
    obtain rfl := Option.some.inj hm
    exact EndsS.one _ rfl (.d _) (.refl _)

theorem locks_Path_c {p0 : Table} {p1 : Inter} {p2 : Int} {r : (List Int)} (hm : locks_Path p0 p1 p2 = some r) : RetD Try.prog 45 [p0.enc, p1.enc, .int .i64 p2] (.sl 1 (r.map (D.int .i64))) := by
  refine .of (mv := fun _ => false) (ret_bodyS callB45 Try.func45 rfl Try.ntmps45 rfl rfl (fun wX gX => ?_))
  unfold locks_Path at hm
  refine w_norm [0, 1, 2] rfl rfl ?_
  refine twp_rseq ?_
  refine s_bx 0 rfl rfl rfl ?_
  refine s_bx 1 rfl rfl rfl ?_
  refine s_a tab_ok rfl ?_
  refine tops_nil ?_
  refine w_norm [2, 3, 4] rfl rfl ?_
  refine twp_seq ?_
  refine w_joinM hm (fun x1 => ([(21, .d (.bool (x1)))] : Fr)) (fun x1 => ([] : List (Nat × Blk))) [21] [2, 3, 4] rfl (fun z2 hm => ?_) (fun x1 hm => ?_)
  · refine twp_region ?_
    iterate 2 (refine s_a tab_ok rfl ?_)
    refine s_b tab_ok rfl (fun q3 hq3 => ?_)
    cases q3
    · replace hm := ite_F hq3 hm
      iterate 3 (refine s_a tab_ok rfl ?_)
      refine s_x rfl rfl (x_len tab_ok rfl rfl rfl) ?_
      iterate 2 (refine s_a tab_ok rfl ?_)
      refine s_b tab_ok rfl (fun q4 hq4 => ?_)
      cases q4
      · replace hm := ite_F hq4 hm
        iterate 2 (refine s_a tab_ok rfl ?_)
        obtain ⟨r5, hr5, hm⟩ := bind_inv hm
        refine s_x rfl rfl (rd_callRN rfl rfl (snaps_cons (.d _) (snaps_cons (.d _) snaps_nil)) (locks_fits_c hr5)) ?_
        iterate 2 (refine s_a tab_ok rfl ?_)
        refine tops_nil ?_
        refine way_then ?_
        exact ⟨_, [0, 1], (Option.some.inj hm).symm, rfl, k0, rfl⟩
      · replace hm := ite_T hq4 hm
        iterate 5 (refine s_a tab_ok rfl ?_)
        refine tops_nil ?_
        refine way_then ?_
        exact ⟨_, [0, 1], (Option.some.inj hm).symm, rfl, k0, rfl⟩
    · replace hm := ite_T hq3 hm
      iterate 12 (refine s_a tab_ok rfl ?_)
      refine tops_nil ?_
      refine way_then ?_
      exact ⟨_, [0, 1], (Option.some.inj hm).symm, rfl, k0, rfl⟩
  · refine w_norm [2, 3, 4, 21] rfl rfl ?_
    refine twp_cond _ rfl (fun h6 => ?_) (fun h6 => ?_)
    · replace hm := iteB_T h6 hm
      refine twp_rseq ?_
      refine s_a tab_ok rfl ?_
      refine tops_nil ?_
      refine c_wk 6 [some 1] rfl ?_
      refine w_norm [6] rfl rfl ?_
      refine twp_ret ?_
      refine way_thenRet ?_
      obtain rfl := Option.some.inj hm
      exact EndsS.one _ rfl (.d _) (.refl _)
    · replace hm := iteB_F h6 hm
      refine twp_skip ?_
      refine way_then ?_
      refine w_norm [2, 3, 4] rfl rfl ?_
      refine twp_dseq follows  ?_
      iterate 3 (refine d_a [0, 1] tab_ok rfl ?_)
      obtain ⟨e7, he7, hm⟩ := get_inv hm
      refine d_x [0, 1] rfl rfl (x_ix tab_ok rfl rfl rfl rfl he7) ?_
      iterate 4 (refine d_a [0, 1] tab_ok rfl ?_)
      obtain ⟨e8, he8, hm⟩ := get_inv hm
      refine d_x [0, 1] rfl rfl (x_ix tab_ok rfl rfl rfl rfl he8) ?_
      refine d_a [0, 1] tab_ok rfl ?_
      obtain ⟨r9, hr9, hm⟩ := bind_inv hm
      refine d_x [0, 1] rfl rfl (rd_callRD rfl rfl rfl (locks_path_c hr9)) ?_
      refine d_tail ?_ (by kernel_rfl)
      refine s_a tab_ok rfl ?_
      refine tops_nil ?_
      refine w_norm [6] rfl rfl ?_
      refine twp_ret ?_
      obtain rfl := Option.some.inj hm
      exact EndsS.one _ rfl (.d _) (.refl _)

theorem progress_Occupied_c {p0 : Inputs} {p1 : Int} {r : Bool} (hm : progress_Occupied p0 p1 = some r) : RetN Try.prog 17 [p0.enc, .int .i64 p1] (.bool (r)) := by
  refine .unit (ret_bodyS callB17 Try.func17 rfl Try.ntmps17 rfl rfl (fun wX gX => ?_)) rfl
  unfold progress_Occupied at hm
  refine w_norm [0, 1] rfl rfl ?_
  refine twp_rseq ?_
  refine s_bx 0 rfl rfl rfl ?_
  refine s_a tab_ok rfl ?_
  refine tops_nil ?_
  refine w_norm [1, 2] rfl rfl ?_
  refine w_joinM hm (fun x1 => ([(4, .d (.bool (x1)))] : Fr)) (fun x1 => ([] : List (Nat × Blk))) [4] [] rfl (fun z2 hm => ?_) (fun x1 hm => ?_)
  · refine twp_region ?_
    iterate 2 (refine s_a tab_ok rfl ?_)
    refine s_b tab_ok rfl (fun q3 hq3 => ?_)
    cases q3
    · replace hm := ite_F hq3 hm
      iterate 3 (refine s_a tab_ok rfl ?_)
      refine s_x rfl rfl (x_len tab_ok rfl rfl rfl) ?_
      iterate 2 (refine s_a tab_ok rfl ?_)
      refine s_b tab_ok rfl (fun q4 hq4 => ?_)
      cases q4
      · replace hm := ite_F hq4 hm
        iterate 3 (refine s_a tab_ok rfl ?_)
        obtain ⟨e5, he5, hm⟩ := get_inv hm
        refine s_x rfl rfl (x_ix tab_ok rfl rfl rfl rfl he5) ?_
        iterate 3 (refine s_a tab_ok rfl ?_)
        refine tops_nil ?_
        refine way_then ?_
        exact ⟨_, [0], (Option.some.inj hm).symm, rfl, k0, rfl⟩
      · replace hm := ite_T hq4 hm
        iterate 7 (refine s_a tab_ok rfl ?_)
        refine tops_nil ?_
        refine way_then ?_
        exact ⟨_, [0], (Option.some.inj hm).symm, rfl, k0, rfl⟩
    · replace hm := ite_T hq3 hm
      iterate 14 (refine s_a tab_ok rfl ?_)
      refine tops_nil ?_
      refine way_then ?_
      exact ⟨_, [0], (Option.some.inj hm).symm, rfl, k0, rfl⟩
  · refine w_norm [4] rfl rfl ?_
    refine twp_ret ?_
    obtain rfl := Option.some.inj hm
    exact EndsS.one _ rfl (.d _) (.refl _)

theorem progress_Emptied_c {p0 : Table} {p1 : Inter} {p2 : Inputs} {p3 : Int} {r : Bool} (hm : progress_Emptied p0 p1 p2 p3 = some r) : RetN Try.prog 21 [p0.enc, p1.enc, p2.enc, .int .i64 p3] (.bool (r)) := by
  refine .unit (ret_bodyS callB21 Try.func21 rfl Try.ntmps21 rfl rfl (fun wX gX => ?_)) rfl
  unfold progress_Emptied at hm
  refine w_norm [0, 1, 2, 3] rfl rfl ?_
  refine twp_rseq ?_
  refine s_bx 0 rfl rfl rfl ?_
  refine s_bx 1 rfl rfl rfl ?_
  refine s_bx 2 rfl rfl rfl ?_
  refine s_a tab_ok rfl ?_
  refine tops_nil ?_
  refine w_norm [3, 4, 5, 6] rfl rfl ?_
  refine w_joinS hm (fun _ => ([] : Fr)) (fun _ => ([] : List (Nat × Blk))) [] [] rfl (fun z1 hm hz1 => ?_) (fun j hm => ?_)
  · refine twp_rseq ?_
    iterate 3 (refine s_a tab_ok rfl ?_)
    obtain ⟨r2, hr2, hm⟩ := bind_inv hm
    refine s_x rfl rfl (rd_callRD rfl rfl rfl (locks_Path_c hr2)) ?_
    refine s_x rfl rfl (x_len tab_ok rfl rfl rfl) ?_
    refine s_a tab_ok rfl ?_
    refine tops_nil ?_
    refine w_norm [6, 14, 15, 16] rfl rfl ?_
    refine twp_block ?_
    refine w_loop hm (fun x4 => ([(16, .d (.int .i64 x4))] : Fr)) (fun x4 => ([] : List (Nat × Blk))) [16] [6, 14, 15] [0, 1, 2] rfl k0 rfl rfl rfl rfl rfl (fun x4 z5 hm hz5 => ?_)
    refine w_norm [6, 14, 15, 16] rfl rfl ?_
    refine twp_rseq ?_
    refine s_a tab_ok rfl ?_
    refine tops_nil ?_
    refine w_norm [6, 14, 15, 16, 17] rfl rfl ?_
    refine twp_seq ?_
    refine twp_cond _ rfl (fun h6 => ?_) (fun h6 => ?_)
    · replace hm := ite_T h6 hm
      refine twp_skip ?_
      refine way_then ?_
      refine w_norm [6, 14, 15, 16] rfl rfl ?_
      refine twp_seq ?_
      refine twp_block ?_
      refine twp_rseq ?_
      obtain ⟨e7, he7, hm⟩ := get_inv hm
      refine s_x rfl rfl (x_ix tab_ok rfl rfl rfl rfl he7) ?_
      iterate 2 (refine s_a tab_ok rfl ?_)
      refine tops_nil ?_
      refine w_norm [6, 10, 14, 15, 16] rfl rfl ?_
      refine twp_rseq ?_
      iterate 2 (refine s_a tab_ok rfl ?_)
      obtain ⟨r8, hr8, hm⟩ := bind_inv hm
      refine s_x rfl rfl (rd_callRN rfl rfl (snaps_cons (.d _) (snaps_cons (.d _) snaps_nil)) (progress_Occupied_c hr8)) ?_
      refine tops_nil ?_
      refine w_norm [6, 14, 15, 16, 22] rfl rfl ?_
      refine twp_cond _ rfl (fun h9 => ?_) (fun h9 => ?_)
      · replace hm := iteB_T h9 hm
        refine twp_rseq ?_
        refine s_a tab_ok rfl ?_
        refine tops_nil ?_
        refine w_norm [8] rfl rfl ?_
        refine twp_ret ?_
        refine way_blockRet ?_
        refine way_thenRet ?_
        obtain ⟨v10, hm, hz⟩ := inr_inv hm
        rw [hz5 _ hz] at hm
        refine way_thenRet ?_
        refine way_blockRet ?_
        obtain ⟨v11, hm, hz⟩ := inr_inv hm
        rw [hz1 _ hz] at hm
        refine way_thenRet ?_
        obtain rfl := Option.some.inj hm
        exact EndsS.one _ rfl (.d _) (.refl _)
      · replace hm := iteB_F h9 hm
        refine twp_skip ?_
        refine way_block ?_
        refine way_then ?_
        refine w_norm [6, 14, 15, 16] rfl rfl ?_
        refine twp_region ?_
        obtain ⟨g12, hm⟩ := guard_inv hm
        refine s_x rfl rfl (x_ar rfl rfl rfl rfl g12) ?_
        refine s_a tab_ok rfl ?_
        refine tops_nil ?_
        refine way_then ?_
        exact ⟨_, [0, 1, 2], (Option.some.inj hm).symm, rfl, k0, rfl⟩
    · replace hm := ite_F h6 hm
      refine twp_exit ?_
      refine way_thenExit ?_
      obtain ⟨v13, hm, hz⟩ := inr_inv hm
      rw [hz5 _ hz] at hm
      refine way_thenExit ?_
      refine way_here ?_
      refine way_then ?_
      exact ⟨_, [0, 1, 2], (Option.some.inj hm).symm, rfl, k0, rfl⟩
  · refine w_norm [] rfl rfl ?_
    refine twp_rseq ?_
    refine s_a tab_ok rfl ?_
    refine tops_nil ?_
    refine w_norm [8] rfl rfl ?_
    refine twp_ret ?_
    obtain rfl := Option.some.inj hm
    exact EndsS.one _ rfl (.d _) (.refl _)

theorem slices_Concat_SettingGrow (n : Nat) (hn : n ≤ 1000000000) (mv : Nat → Bool) : Ret Try.prog 78 [] mv ([.nilsl, .int .i64 n].map .d) (.msl 0 2 0 0) [.flat 43 2 []] := by
  refine ret_body callB78 Try.func78 rfl Try.ntmps78 rfl rfl (fun wX gX => ?_)
  refine twp_norm [0, 1] (sub_d rfl (sub_d rfl .nil)) (blk_nil rfl) ?_
  refine twp_rseq ?_
  refine s_rd _ rfl (mv_d (.inr rfl) rfl) ?_
  refine tops_nil ?_
  refine twp_norm [0, 1] (sub_d rfl (sub_d rfl .nil)) (blk_nil rfl) ?_
  refine twp_seq ?_
  refine twp_rseq ?_
  refine s_rd _ rfl (mv_d (.inl rfl) rfl) ?_
  refine s_rd _ rfl (cmp_int rfl rfl rfl rfl) ?_
  refine tops_nil ?_
  refine twp_norm [0, 1, 6] (sub_d rfl (sub_d rfl (sub_d rfl .nil))) (blk_nil rfl) ?_
  refine twp_cond _ rfl (fun hneg => ?_) (fun hneg => ?_)
  · exact absurd (of_decide_eq_true hneg) (by omega)
  · refine twp_skip ?_
    refine way_then ?_
    refine twp_norm [0, 1] (sub_d rfl (sub_d rfl .nil)) (blk_nil rfl) ?_
    refine twp_seq ?_
    refine twp_rseq ?_
    refine s_rd _ rfl (mv_d (.inl rfl) rfl) ?_
    refine s_rd _ rfl (mv_d (.inl rfl) rfl) ?_
    refine s_rd _ rfl (cap_nil rfl sel40 rfl) ?_
    refine s_rd _ rfl (mv_d (.inl rfl) rfl) ?_
    refine s_rd _ rfl (len_nil rfl sel40 rfl) ?_
    refine s_rd _ rfl (arith_to (r := 0) rfl rfl rfl rfl rfl (by first | omega | (constructor <;> omega))) ?_
    refine s_rd _ rfl (arith_to (r := (n : Int)) rfl rfl rfl rfl (by omega) (by first | omega | (constructor <;> omega))) ?_
    refine s_rd _ rfl (mv_d (.inr rfl) rfl) ?_
    refine tops_nil ?_
    refine twp_norm [0, 1] (sub_d rfl (sub_d rfl .nil)) (blk_nil rfl) ?_
    refine twp_rseq ?_
    refine s_rd _ rfl (mv_d (.inl rfl) rfl) ?_
    refine s_rd _ rfl (cmp_int rfl rfl rfl rfl) ?_
    refine tops_nil ?_
    refine twp_norm [0, 1, 16] (sub_d rfl (sub_d rfl (sub_d rfl .nil))) (blk_nil rfl) ?_
    refine twp_cond _ rfl (fun hpos => ?_) (fun hpos => ?_)
    · have hpos : 0 < n := by simpa using hpos
      refine twp_region ?_
      refine s_rd _ rfl (mv_d (.inl rfl) rfl) ?_
      refine s_rd _ rfl (mv_d (.inl rfl) rfl) ?_
      refine s_rd _ rfl (cap_nil rfl sel40 rfl) ?_
      refine s_rd _ rfl (cut_nil rfl sel40 rfl rfl rfl) ?_
      refine s_rd _ rfl (mv_d (.inl rfl) rfl) ?_
      refine s_zeros (n := n) rfl sel40 Try.underlying3 zero43 rfl rfl rfl hpos (by decide) (by omega) (by omega) ?_
      refine s_rd _ rfl (mv_d (.inl rfl) rfl) ?_
      refine s_rd _ rfl (len_nil rfl sel40 rfl) ?_
      refine s_rd _ rfl (rd_cut_msl 0 2 16 0 n 0 0 rfl sel40 rfl rfl rfl (Nat.le_refl _) (Nat.zero_le _)) ?_
      refine s_rd _ rfl (mv_msl (.inr rfl) rfl) ?_
      refine tops_nil ?_
      refine way_then ?_
      refine twp_norm [0] (sub_msl rfl .nil) (blk_flat rfl (blk_nil rfl)) ?_
      refine twp_rseq ?_
      refine s_rd _ rfl (mv_msl (.inl rfl) rfl) ?_
      refine s_rd _ rfl (mv_msl (.inr rfl) rfl) ?_
      refine tops_nil ?_
      refine twp_norm [4] (sub_msl rfl .nil) (blk_flat rfl (blk_nil rfl)) ?_
      refine twp_ret ?_
      exact ⟨_, [0], res rfl, by decide, fun i hi => absurd hi (Nat.not_lt_zero i), rfl, rfl⟩
    · refine twp_upgrade 0 43 2 rfl ?_
      refine twp_skip ?_
      refine way_then ?_
      refine twp_norm [0] (sub_msl rfl .nil) (blk_flat rfl (blk_nil rfl)) ?_
      refine twp_rseq ?_
      refine s_rd _ rfl (mv_msl (.inl rfl) rfl) ?_
      refine s_rd _ rfl (mv_msl (.inr rfl) rfl) ?_
      refine tops_nil ?_
      refine twp_norm [4] (sub_msl rfl .nil) (blk_flat rfl (blk_nil rfl)) ?_
      refine twp_ret ?_
      exact ⟨_, [0], res rfl, by decide, fun i hi => absurd hi (Nat.not_lt_zero i), rfl, rfl⟩

theorem slices_Concat_SettingConcat (xss : List (List Setting)) (hn : xss.length ≤ 1000) (ht : xss.flatten.length ≤ 1000000000) (mv : Nat → Bool) : Ret Try.prog 70 [] mv ([.sl 1 (xss.map fun l => .sl 2 (l.map Setting.enc))].map .d) (.msl 0 2 0 xss.flatten.length) [.flat 43 2 (xss.flatten.map Setting.enc)] := by
  refine ret_body callB70 Try.func70 rfl Try.ntmps70 rfl rfl (fun wX gX => ?_)
  refine twp_norm [0] (sub_d rfl .nil) (blk_nil rfl) ?_
  refine twp_rseq ?_
  refine s_rd _ rfl (mv_d (.inr rfl) rfl) ?_
  refine tops_nil ?_
  refine twp_norm [0] (sub_d rfl .nil) (blk_nil rfl) ?_
  refine twp_rseq ?_
  refine s_rd _ rfl (mv_d (.inr rfl) rfl) ?_
  refine tops_nil ?_
  refine twp_norm [0, 3] (sub_d rfl (sub_d rfl .nil)) (blk_nil rfl) ?_
  refine twp_seq ?_
  refine twp_rseq ?_
  refine s_rd _ rfl (mv_d (.inl rfl) rfl) ?_
  refine s_rd _ rfl (by first | exact len_d rfl sel92 rfl (by first | exact List.length_map _ | rfl) | exact len_nil rfl sel92 rfl) ?_
  refine s_rd _ rfl (mv_d (.inl rfl) rfl) ?_
  refine tops_nil ?_
  refine twp_norm [0, 3, 9, 10, 11] (sub_d rfl (sub_d rfl (sub_d rfl (sub_d rfl (sub_d rfl .nil))))) (blk_nil rfl) ?_
  refine twp_block ?_
  refine twp_whileK (fun i => ([(3, .d (.int .i64 ((flatTo xss i).length : Int))), (11, .d (.int .i64 ((i : Nat) : Int)))] : Fr)) (fun i => ([] : List (Nat × Blk))) (fun i => i ≤ xss.length) (fun i => xss.length - i) [3, 11] [0, 9, 10] [] 0 (by decide) (fun i hi => absurd hi (Nat.not_lt_zero i)) (Nat.zero_le _) (sub_d rfl (sub_d rfl (sub_d rfl .nil))) rfl (by rw [flat_zero]; rfl) (blk_nil rfl) rfl ?_
  rintro i hok
  refine twp_norm [3, 11, 0, 9, 10] (sub_d rfl (sub_d rfl (sub_d rfl (sub_d rfl (sub_d rfl .nil))))) (blk_nil rfl) ?_
  refine twp_rseq ?_
  refine s_rd _ rfl (cmp_int rfl rfl rfl rfl) ?_
  refine tops_nil ?_
  refine twp_norm [0, 3, 9, 10, 11, 12] (sub_d rfl (sub_d rfl (sub_d rfl (sub_d rfl (sub_d rfl (sub_d rfl .nil)))))) (blk_nil rfl) ?_
  refine twp_seq ?_
  refine twp_cond _ rfl (fun hlt => ?_) (fun hlt => ?_)
  · have hlt : i < xss.length := by simpa using hlt
    obtain ⟨x, hx⟩ : ∃ x, (xss)[i]? = some x := ⟨_, List.getElem?_eq_getElem (by first | exact hlt | omega | (simp; omega))⟩
    have hs := flat_succ hx
    have hle := flat_le xss (i + 1)
    refine twp_skip ?_
    refine way_then ?_
    refine twp_norm [0, 3, 9, 10, 11] (sub_d rfl (sub_d rfl (sub_d rfl (sub_d rfl (sub_d rfl .nil))))) (blk_nil rfl) ?_
    refine twp_seq ?_
    refine twp_block ?_
    refine twp_rseq ?_
    refine s_rd _ rfl (index_sl rfl sel92 rfl rfl (idx_map hx)) ?_
    refine s_rd _ rfl (load_ptr rfl lay40 rfl rfl) ?_
    refine s_rd _ rfl (mv_d (.inr rfl) rfl) ?_
    refine tops_nil ?_
    refine twp_norm [0, 3, 5, 9, 10, 11] (sub_d rfl (sub_d rfl (sub_d rfl (sub_d rfl (sub_d rfl (sub_d rfl .nil)))))) (blk_nil rfl) ?_
    refine twp_rseq ?_
    refine s_rd _ rfl (mv_d (.inl rfl) rfl) ?_
    refine s_rd _ rfl (mv_d (.inl rfl) rfl) ?_
    refine s_rd _ rfl (by first | exact len_d rfl sel40 rfl (by first | exact List.length_map _ | rfl) | exact len_nil rfl sel40 rfl) ?_
    refine s_rd _ rfl (arith_to (r := ((flatTo xss (i + 1)).length : Int)) rfl rfl rfl rfl (by rw [hs]; simp) (by omega)) ?_
    refine s_rd _ rfl (mv_d (.inr rfl) rfl) ?_
    refine tops_nil ?_
    refine twp_norm [0, 3, 9, 10, 11] (sub_d rfl (sub_d rfl (sub_d rfl (sub_d rfl (sub_d rfl .nil))))) (blk_nil rfl) ?_
    refine twp_rseq ?_
    refine s_rd _ rfl (mv_d (.inl rfl) rfl) ?_
    refine s_rd _ rfl (cmp_int rfl rfl rfl rfl) ?_
    refine tops_nil ?_
    refine twp_norm [0, 3, 9, 10, 11, 20] (sub_d rfl (sub_d rfl (sub_d rfl (sub_d rfl (sub_d rfl (sub_d rfl .nil)))))) (blk_nil rfl) ?_
    refine twp_cond _ rfl (fun hneg => ?_) (fun hneg => ?_)
    · exact absurd (of_decide_eq_true hneg) (by omega)
    · refine twp_skip ?_
      refine way_block ?_
      refine way_then ?_
      refine twp_norm [0, 3, 9, 10, 11] (sub_d rfl (sub_d rfl (sub_d rfl (sub_d rfl (sub_d rfl .nil))))) (blk_nil rfl) ?_
      refine twp_region ?_
      refine s_rd _ rfl (arith_ok rfl rfl rfl rfl (by first | omega | (constructor <;> omega))) ?_
      refine s_rd _ rfl (mv_d (.inl rfl) rfl) ?_
      refine tops_nil ?_
      refine way_then ?_
      exact ⟨(i + 1), [], by decide, (fun i hi => absurd hi (Nat.not_lt_zero i)), (by omega), (by omega), rfl⟩
  · have hge : ¬ i < xss.length := by simpa using hlt
    have hi : i = xss.length := by omega
    refine twp_exit ?_
    refine way_thenExit ?_
    refine way_thenExit ?_
    refine way_here ?_
    refine way_then ?_
    refine twp_norm [0, 3] (sub_d rfl (sub_d rfl .nil)) (blk_nil rfl) ?_
    refine twp_rseq ?_
    refine s_rd _ rfl (mv_d (.inl rfl) rfl) ?_
    refine s_callD rfl rfl rfl (slices_Concat_SettingGrow _ (by have := flat_le xss i; omega) (fun _ => false)) rfl rfl ?_
    refine s_rd _ rfl (mv_msl (.inr rfl) rfl) ?_
    refine tops_nil ?_
    refine twp_norm [0, 6] (sub_d rfl (sub_msl rfl .nil)) (blk_flat rfl (blk_nil rfl)) ?_
    refine twp_seq ?_
    refine twp_rseq ?_
    refine s_rd _ rfl (mv_d (.inl rfl) rfl) ?_
    refine s_rd _ rfl (by first | exact len_d rfl sel92 rfl (by first | exact List.length_map _ | rfl) | exact len_nil rfl sel92 rfl) ?_
    refine s_rd _ rfl (mv_d (.inl rfl) rfl) ?_
    refine tops_nil ?_
    refine twp_norm [6, 25, 26, 27] (sub_msl rfl (sub_d rfl (sub_d rfl (sub_d rfl .nil)))) (blk_flat rfl (blk_nil rfl)) ?_
    refine twp_block ?_
    refine twp_whileK (fun i => ([(6, .msl 0 2 0 (flatTo xss i).length), (27, .d (.int .i64 ((i : Nat) : Int)))] : Fr)) (fun i => ([(0, .flat 43 2 ((flatTo xss i).map Setting.enc))] : List (Nat × Blk))) (fun i => i ≤ xss.length) (fun i => xss.length - i) [6, 27] [25, 26] [0] 0 (by decide) (fun i hi => absurd hi (Nat.not_lt_zero i)) (Nat.zero_le _) (sub_d rfl (sub_d rfl .nil)) rfl (by rw [flat_zero]; rfl) (blk_flat rfl (blk_nil rfl)) (by rw [flat_zero]; rfl) ?_
    rintro i hok
    refine twp_norm [6, 27, 25, 26] (sub_msl rfl (sub_d rfl (sub_d rfl (sub_d rfl .nil)))) (blk_flat rfl (blk_nil rfl)) ?_
    refine twp_rseq ?_
    refine s_rd _ rfl (cmp_int rfl rfl rfl rfl) ?_
    refine tops_nil ?_
    refine twp_norm [6, 25, 26, 27, 28] (sub_msl rfl (sub_d rfl (sub_d rfl (sub_d rfl (sub_d rfl .nil))))) (blk_flat rfl (blk_nil rfl)) ?_
    refine twp_seq ?_
    refine twp_cond _ rfl (fun hlt => ?_) (fun hlt => ?_)
    · have hlt : i < xss.length := by simpa using hlt
      obtain ⟨x, hx⟩ : ∃ x, (xss)[i]? = some x := ⟨_, List.getElem?_eq_getElem (by first | exact hlt | omega | (simp; omega))⟩
      have hs := flat_succ hx
      have hle := flat_le xss (i + 1)
      have hsl : (flatTo xss (i + 1)).length = (flatTo xss i).length + x.length := by rw [hs]; simp
      refine twp_skip ?_
      refine way_then ?_
      refine twp_norm [6, 25, 26, 27] (sub_msl rfl (sub_d rfl (sub_d rfl (sub_d rfl .nil)))) (blk_flat rfl (blk_nil rfl)) ?_
      refine twp_seq ?_
      refine twp_block ?_
      refine twp_rseq ?_
      refine s_rd _ rfl (index_sl rfl sel92 rfl rfl (idx_map hx)) ?_
      refine s_rd _ rfl (load_ptr rfl lay40 rfl rfl) ?_
      refine s_rd _ rfl (mv_d (.inr rfl) rfl) ?_
      refine tops_nil ?_
      refine twp_norm [6, 8, 25, 26, 27] (sub_msl rfl (sub_d rfl (sub_d rfl (sub_d rfl (sub_d rfl .nil))))) (blk_flat rfl (blk_nil rfl)) ?_
      refine twp_region ?_
      refine s_rd _ rfl (mv_msl (.inl rfl) rfl) ?_
      refine s_rd _ rfl (mv_d (.inl rfl) rfl) ?_
      refine s_append (m := (flatTo xss (i + 1)).length) (ds := x.map Setting.enc) (es' := (flatTo xss (i + 1)).map Setting.enc) rfl sel40 zero43 rfl rfl rfl (by simp) (fun h => absurd h (Nat.not_lt_zero _)) rfl ⟨rfl, (by first | rfl | (simp [List.map_take, List.map_drop]; done) | (rw [← List.map_drop, List.take_of_length_le (by simp)]))⟩ (by rw [hs]; simp) (by simp; omega) (by omega) (by omega) rfl rfl ?_
      refine s_rd _ rfl (mv_msl (.inr rfl) rfl) ?_
      refine tops_nil ?_
      refine way_block ?_
      refine way_then ?_
      refine twp_norm [6, 25, 26, 27] (sub_msl rfl (sub_d rfl (sub_d rfl (sub_d rfl .nil)))) (blk_flat rfl (blk_nil rfl)) ?_
      refine twp_region ?_
      refine s_rd _ rfl (arith_ok rfl rfl rfl rfl (by first | omega | (constructor <;> omega))) ?_
      refine s_rd _ rfl (mv_d (.inl rfl) rfl) ?_
      refine tops_nil ?_
      refine way_then ?_
      exact ⟨(i + 1), [0], by decide, (fun i hi => absurd hi (Nat.not_lt_zero i)), (by omega), (by omega), rfl⟩
    · have hge : ¬ i < xss.length := by simpa using hlt
      have hi : i = xss.length := by omega
      have hall := flat_all hge
      refine twp_exit ?_
      refine way_thenExit ?_
      refine way_thenExit ?_
      refine way_here ?_
      refine way_then ?_
      refine twp_norm [6] (sub_msl rfl .nil) (blk_flat rfl (blk_nil rfl)) ?_
      refine twp_rseq ?_
      refine s_rd _ rfl (mv_msl (.inl rfl) rfl) ?_
      refine s_rd _ rfl (mv_msl (.inr rfl) rfl) ?_
      refine tops_nil ?_
      refine twp_norm [2] (sub_msl rfl .nil) (blk_flat rfl (blk_nil rfl)) ?_
      refine twp_ret ?_
      rw [hall]
      exact ⟨_, [0], res rfl, by decide, fun i hi => absurd hi (Nat.not_lt_zero i), rfl, rfl⟩

theorem slices_Concat_Setting_row {p0 : List (List Setting)} {r : List Setting} (hm : slices_Concat_Setting p0 = some r) : Ret Try.prog 70 [] (fun _ => false) ([.sl 1 (p0.map (fun l => D.sl 2 (l.map Setting.enc)))].map .d) (.msl 0 2 0 r.length) [.flat 43 2 (r.map Setting.enc)] := by
  unfold slices_Concat_Setting at hm
  obtain ⟨g, hm⟩ := guard_inv hm
  obtain rfl := Option.some.inj hm
  exact slices_Concat_SettingConcat p0 g.1 g.2 (fun _ => false)

theorem cmp_isNaN_int_c {p0 : Int} {r : Bool} (hm : cmp_isNaN_int p0 = some r) : RetN Try.prog 81 [.int .i64 p0] (.bool (r)) := by
  refine .unit (ret_bodyS callB81 Try.func81 rfl Try.ntmps81 rfl rfl (fun wX gX => ?_)) rfl
  unfold cmp_isNaN_int at hm
  refine w_norm [0] rfl rfl ?_
  refine twp_rseq ?_
  refine s_a tab_ok rfl ?_
  refine tops_nil ?_
  refine w_norm [0] rfl rfl ?_
  refine twp_rseq ?_
  iterate 4 (refine s_a tab_ok rfl ?_)
  refine tops_nil ?_
  refine w_norm [2] rfl rfl ?_
  refine twp_ret ?_
  obtain rfl := Option.some.inj hm
  exact EndsS.one _ rfl (.d _) (.refl _)

theorem cmp_Compare_int_c {p0 : Int} {p1 : Int} {r : Int} (hm : cmp_Compare_int p0 p1 = some r) : RetN Try.prog 74 [.int .i64 p0, .int .i64 p1] (.int .i64 r) := by
  refine .unit (ret_bodyS callB74 Try.func74 rfl Try.ntmps74 rfl rfl (fun wX gX => ?_)) rfl
  unfold cmp_Compare_int at hm
  refine w_norm [0, 1] rfl rfl ?_
  refine twp_rseq ?_
  refine s_a tab_ok rfl ?_
  refine tops_nil ?_
  refine w_norm [0, 1] rfl rfl ?_
  refine twp_rseq ?_
  refine s_a tab_ok rfl ?_
  obtain ⟨r1, hr1, hm⟩ := bind_inv hm
  refine s_x rfl rfl (rd_callRN rfl rfl (snaps_cons (.d _) snaps_nil) (cmp_isNaN_int_c hr1)) ?_
  refine s_a tab_ok rfl ?_
  refine tops_nil ?_
  refine w_norm [0, 1, 5] rfl rfl ?_
  refine twp_rseq ?_
  refine s_a tab_ok rfl ?_
  obtain ⟨r2, hr2, hm⟩ := bind_inv hm
  refine s_x rfl rfl (rd_callRN rfl rfl (snaps_cons (.d _) snaps_nil) (cmp_isNaN_int_c hr2)) ?_
  refine s_a tab_ok rfl ?_
  refine tops_nil ?_
  refine w_norm [0, 1, 5, 6] rfl rfl ?_
  refine twp_seq ?_
  refine twp_rseq ?_
  refine s_a tab_ok rfl ?_
  refine tops_nil ?_
  refine w_norm [0, 1, 6, 11] rfl rfl ?_
  refine twp_cond _ rfl (fun h3 => ?_) (fun h3 => ?_)
  · replace hm := iteB_T h3 hm
    refine twp_seq ?_
    refine twp_rseq ?_
    refine s_a tab_ok rfl ?_
    refine tops_nil ?_
    refine w_norm [12] rfl rfl ?_
    refine twp_cond _ rfl (fun h4 => ?_) (fun h4 => ?_)
    · replace hm := iteB_T h4 hm
      refine twp_rseq ?_
      refine s_a tab_ok rfl ?_
      refine tops_nil ?_
      refine w_norm [4] rfl rfl ?_
      refine twp_ret ?_
      refine way_thenRet ?_
      refine way_thenRet ?_
      obtain rfl := Option.some.inj hm
      exact EndsS.one _ rfl (.d _) (.refl _)
    · replace hm := iteB_F h4 hm
      refine twp_skip ?_
      refine way_then ?_
      refine w_norm [] rfl rfl ?_
      refine twp_rseq ?_
      refine s_a tab_ok rfl ?_
      refine tops_nil ?_
      refine w_norm [4] rfl rfl ?_
      refine twp_ret ?_
      refine way_thenRet ?_
      obtain rfl := Option.some.inj hm
      exact EndsS.one _ rfl (.d _) (.refl _)
  · replace hm := iteB_F h3 hm
    refine twp_skip ?_
    refine way_then ?_
    refine w_norm [0, 1, 6] rfl rfl ?_
    refine twp_seq ?_
    refine twp_rseq ?_
    refine s_a tab_ok rfl ?_
    refine tops_nil ?_
    refine w_norm [0, 1, 13] rfl rfl ?_
    refine twp_cond _ rfl (fun h5 => ?_) (fun h5 => ?_)
    · replace hm := iteB_T h5 hm
      refine twp_rseq ?_
      refine s_a tab_ok rfl ?_
      refine tops_nil ?_
      refine w_norm [4] rfl rfl ?_
      refine twp_ret ?_
      refine way_thenRet ?_
      obtain rfl := Option.some.inj hm
      exact EndsS.one _ rfl (.d _) (.refl _)
    · replace hm := iteB_F h5 hm
      refine twp_skip ?_
      refine way_then ?_
      refine w_norm [0, 1] rfl rfl ?_
      refine twp_seq ?_
      refine twp_rseq ?_
      iterate 3 (refine s_a tab_ok rfl ?_)
      refine tops_nil ?_
      refine w_norm [0, 1, 16] rfl rfl ?_
      refine twp_cond _ rfl (fun h6 => ?_) (fun h6 => ?_)
      · replace hm := ite_T h6 hm
        refine twp_rseq ?_
        refine s_a tab_ok rfl ?_
        refine tops_nil ?_
        refine w_norm [4] rfl rfl ?_
        refine twp_ret ?_
        refine way_thenRet ?_
        obtain rfl := Option.some.inj hm
        exact EndsS.one _ rfl (.d _) (.refl _)
      · replace hm := ite_F h6 hm
        refine twp_skip ?_
        refine way_then ?_
        refine w_norm [0, 1] rfl rfl ?_
        refine twp_seq ?_
        refine twp_rseq ?_
        iterate 3 (refine s_a tab_ok rfl ?_)
        refine tops_nil ?_
        refine w_norm [19] rfl rfl ?_
        refine twp_cond _ rfl (fun h7 => ?_) (fun h7 => ?_)
        · replace hm := ite_T h7 hm
          refine twp_rseq ?_
          refine s_a tab_ok rfl ?_
          refine tops_nil ?_
          refine w_norm [4] rfl rfl ?_
          refine twp_ret ?_
          refine way_thenRet ?_
          obtain rfl := Option.some.inj hm
          exact EndsS.one _ rfl (.d _) (.refl _)
        · replace hm := ite_F h7 hm
          refine twp_skip ?_
          refine way_then ?_
          refine w_norm [] rfl rfl ?_
          refine twp_rseq ?_
          refine s_a tab_ok rfl ?_
          refine tops_nil ?_
          refine w_norm [4] rfl rfl ?_
          refine twp_ret ?_
          obtain rfl := Option.some.inj hm
          exact EndsS.one _ rfl (.d _) (.refl _)

theorem cmp_Or_int_c {p0 : (List Int)} {r : Int} (hm : cmp_Or_int p0 = some r) : RetN Try.prog 73 [.sl 1 (p0.map (D.int .i64))] (.int .i64 r) := by
  refine .unit (ret_bodyS callB73 Try.func73 rfl Try.ntmps73 rfl rfl (fun wX gX => ?_)) rfl
  unfold cmp_Or_int at hm
  refine w_norm [0] rfl rfl ?_
  refine twp_rseq ?_
  refine s_a tab_ok rfl ?_
  refine tops_nil ?_
  refine w_norm [0] rfl rfl ?_
  refine twp_rseq ?_
  refine s_a tab_ok rfl ?_
  refine tops_nil ?_
  refine w_norm [0, 3] rfl rfl ?_
  refine w_joinS hm (fun _ => ([] : Fr)) (fun _ => ([] : List (Nat × Blk))) [] [3] rfl (fun z1 hm hz1 => ?_) (fun j hm => ?_)
  · refine twp_rseq ?_
    refine s_a tab_ok rfl ?_
    refine s_x rfl rfl (x_len tab_ok rfl rfl rfl) ?_
    refine s_a tab_ok rfl ?_
    refine tops_nil ?_
    refine w_norm [3, 6, 7, 8] rfl rfl ?_
    refine twp_block ?_
    refine w_loop hm (fun x3 => ([(8, .d (.int .i64 x3))] : Fr)) (fun x3 => ([] : List (Nat × Blk))) [8] [3, 6, 7] [] rfl k0 rfl rfl rfl rfl rfl (fun x3 z4 hm hz4 => ?_)
    refine w_norm [3, 6, 7, 8] rfl rfl ?_
    refine twp_rseq ?_
    refine s_a tab_ok rfl ?_
    refine tops_nil ?_
    refine w_norm [3, 6, 7, 8, 9] rfl rfl ?_
    refine twp_seq ?_
    refine twp_cond _ rfl (fun h5 => ?_) (fun h5 => ?_)
    · replace hm := ite_T h5 hm
      refine twp_skip ?_
      refine way_then ?_
      refine w_norm [3, 6, 7, 8] rfl rfl ?_
      refine twp_seq ?_
      refine twp_block ?_
      refine twp_rseq ?_
      obtain ⟨e6, he6, hm⟩ := get_inv hm
      refine s_x rfl rfl (x_ix tab_ok rfl rfl rfl rfl he6) ?_
      iterate 2 (refine s_a tab_ok rfl ?_)
      refine tops_nil ?_
      refine w_norm [3, 5, 6, 7, 8] rfl rfl ?_
      refine twp_rseq ?_
      iterate 3 (refine s_a tab_ok rfl ?_)
      refine tops_nil ?_
      refine w_norm [3, 5, 6, 7, 8, 14] rfl rfl ?_
      refine twp_cond _ rfl (fun h7 => ?_) (fun h7 => ?_)
      · replace hm := iteN_T h7 hm
        refine twp_rseq ?_
        iterate 2 (refine s_a tab_ok rfl ?_)
        refine tops_nil ?_
        refine w_norm [2] rfl rfl ?_
        refine twp_ret ?_
        refine way_blockRet ?_
        refine way_thenRet ?_
        obtain ⟨v8, hm, hz⟩ := inr_inv hm
        rw [hz4 _ hz] at hm
        refine way_thenRet ?_
        refine way_blockRet ?_
        obtain ⟨v9, hm, hz⟩ := inr_inv hm
        rw [hz1 _ hz] at hm
        refine way_thenRet ?_
        obtain rfl := Option.some.inj hm
        exact EndsS.one _ rfl (.d _) (.refl _)
      · replace hm := iteN_F h7 hm
        refine twp_skip ?_
        refine way_block ?_
        refine way_then ?_
        refine w_norm [3, 6, 7, 8] rfl rfl ?_
        refine twp_region ?_
        obtain ⟨g10, hm⟩ := guard_inv hm
        refine s_x rfl rfl (x_ar rfl rfl rfl rfl g10) ?_
        refine s_a tab_ok rfl ?_
        refine tops_nil ?_
        refine way_then ?_
        exact ⟨_, [], (Option.some.inj hm).symm, rfl, k0, rfl⟩
    · replace hm := ite_F h5 hm
      refine twp_exit ?_
      refine way_thenExit ?_
      obtain ⟨v11, hm, hz⟩ := inr_inv hm
      rw [hz4 _ hz] at hm
      refine way_thenExit ?_
      refine way_here ?_
      refine way_then ?_
      exact ⟨_, [], (Option.some.inj hm).symm, rfl, k0, rfl⟩
  · refine w_norm [3] rfl rfl ?_
    refine twp_rseq ?_
    iterate 2 (refine s_a tab_ok rfl ?_)
    refine tops_nil ?_
    refine w_norm [2] rfl rfl ?_
    refine twp_ret ?_
    obtain rfl := Option.some.inj hm
    exact EndsS.one _ rfl (.d _) (.refl _)

theorem table_Settings_c1_c {p0 : Setting} {p1 : Setting} {r : Int} (hm : table_Settings_c1 p0 p1 = some r) : RetN Try.prog 72 [p0.enc, p1.enc] (.int .i64 r) := by
  refine .unit (ret_bodyS callB72 Try.func72 rfl Try.ntmps72 rfl rfl (fun wX gX => ?_)) rfl
  unfold table_Settings_c1 at hm
  refine w_norm [0, 1] rfl rfl ?_
  refine twp_rseq ?_
  refine s_bx 0 rfl rfl rfl ?_
  refine s_bx 1 rfl rfl rfl ?_
  refine s_a tab_ok rfl ?_
  refine tops_nil ?_
  refine w_norm [2, 3] rfl rfl ?_
  refine twp_dseq follows  ?_
  iterate 4 (refine d_a [0, 1] tab_ok rfl ?_)
  obtain ⟨r1, hr1, hm⟩ := bind_inv hm
  refine d_x [0, 1] rfl rfl (rd_callRN rfl rfl (snaps_cons (.d _) (snaps_cons (.d _) snaps_nil)) (cmp_Compare_int_c hr1)) ?_
  iterate 4 (refine d_a [0, 1] tab_ok rfl ?_)
  obtain ⟨r2, hr2, hm⟩ := bind_inv hm
  refine d_x [0, 1] rfl rfl (rd_callRN rfl rfl (snaps_cons (.d _) (snaps_cons (.d _) snaps_nil)) (cmp_Compare_int_c hr2)) ?_
  refine d_x [0, 1] rfl rfl (x_lit [.tmp 9, .tmp 14] tab_ok rfl rfl zero3 rfl rfl rfl rfl rfl) ?_
  obtain ⟨r3, hr3, hm⟩ := bind_inv hm
  refine d_x [0, 1] rfl rfl (rd_callRN rfl rfl (snaps_cons (.d _) snaps_nil) (cmp_Or_int_c hr3)) ?_
  refine d_tail ?_ (by kernel_rfl)
  refine s_a tab_ok rfl ?_
  refine tops_nil ?_
  refine w_norm [4] rfl rfl ?_
  refine twp_ret ?_
  obtain rfl := Option.some.inj hm
  exact EndsS.one _ rfl (.d _) (.refl _)

theorem table_Settings_c {p0 : Route} {r : (List Setting)} (hm : table_Settings p0 = some r) : RetD Try.prog 50 [p0.enc] (.sl 2 (r.map Setting.enc)) := by
  refine .of (mv := fun _ => false) (ret_bodyS callB50 Try.func50 rfl Try.ntmps50 rfl rfl (fun wX gX => ?_))
  unfold table_Settings at hm
  refine w_norm [0] rfl rfl ?_
  refine twp_rseq ?_
  refine s_bx 0 rfl rfl rfl ?_
  refine s_a tab_ok rfl ?_
  refine tops_nil ?_
  refine w_norm [1] rfl rfl ?_
  refine twp_rseq ?_
  iterate 6 (refine s_a tab_ok rfl ?_)
  refine s_x rfl rfl (x_lit [.tmp 8, .tmp 10, .tmp 12] tab_ok rfl rfl zero40 rfl rfl rfl rfl rfl) ?_
  obtain ⟨r1, hr1, hm⟩ := bind_inv hm
  refine s_callD rfl rfl rfl (slices_Concat_Setting_row hr1) rfl rfl ?_
  refine s_eq 14 (.msl 1 2 0 r1.length) rfl rfl ?_
  refine s_a tab_ok rfl ?_
  refine tops_nil ?_
  refine w_norm [3] rfl rfl ?_
  refine twp_rseq ?_
  refine s_a tab_ok rfl ?_
  obtain ⟨g2, hm⟩ := guard_inv hm
  refine s_callW [1] rfl rfl rfl (by simp) rfl rfl rfl (slices_SortFunc_Setting_c table_Settings_c1_sort rfl (fun _ _ _ h => (table_Settings_c1_c h).retD) r1 g2) rfl rfl ?_
  refine s_lno 3 (sortM table_Settings_c1 r1).length rfl (sortM_length _).symm ?_
  refine s_lno 15 (sortM table_Settings_c1 r1).length rfl (sortM_length _).symm ?_
  refine tops_nil ?_
  refine w_norm [3] rfl rfl ?_
  refine twp_rseq ?_
  refine s_nilO (f := Setting.enc) 2 43 2 rfl rfl rfl ?_
  refine tops_nil ?_
  refine w_norm [3, 4] rfl rfl ?_
  refine w_joinM hm (fun b3 => ([(4, .msl 2 2 0 b3.length)] : Fr)) (fun b3 => ([(2, .flat 43 2 (b3.map Setting.enc))] : List (Nat × Blk))) [4] [] rfl (fun z4 hm => ?_) (fun b3 hm => ?_)
  · refine twp_rseq ?_
    iterate 3 (refine s_a tab_ok rfl ?_)
    refine tops_nil ?_
    refine w_norm [3, 4, 17, 18, 19] rfl rfl ?_
    refine twp_block ?_
    refine w_loop hm (fun (x8, b9) => ([(4, .msl 2 2 0 b9.length), (19, .d (.int .i64 x8))] : Fr)) (fun (x8, b9) => ([(2, .flat 43 2 (b9.map Setting.enc))] : List (Nat × Blk))) [4, 19] [3, 17, 18] [0, 1, 2] rfl k0 rfl rfl rfl rfl rfl (fun s z10 hm hz10 => ?_)
    obtain ⟨x8, b9⟩ := s
    refine w_norm [3, 4, 17, 18, 19] rfl rfl ?_
    refine twp_rseq ?_
    refine s_a tab_ok rfl ?_
    refine tops_nil ?_
    refine w_norm [3, 4, 17, 18, 19, 20] rfl rfl ?_
    refine twp_seq ?_
    refine twp_cond _ rfl (fun h11 => ?_) (fun h11 => ?_)
    · replace hm := ite_T h11 hm
      refine twp_skip ?_
      refine way_then ?_
      refine w_norm [3, 4, 17, 18, 19] rfl rfl ?_
      refine twp_seq ?_
      refine twp_block ?_
      refine twp_rseq ?_
      refine s_a tab_ok rfl ?_
      obtain ⟨e12, he12, hm⟩ := get_inv hm
      refine s_x rfl rfl (x_ixo tab_ok rfl rfl rfl rfl he12 rfl) ?_
      refine s_x rfl rfl (x_ldo tab_ok rfl rfl rfl rfl he12.2 rfl) ?_
      refine s_al 3 rfl rfl zero43 rfl ?_
      iterate 2 (refine s_a tab_ok rfl ?_)
      refine tops_nil ?_
      refine w_norm [3, 4, 5, 6, 17, 18, 19] rfl rfl ?_
      refine w_joinM hm (fun x13 => ([(34, .d (.bool (x13)))] : Fr)) (fun x13 => ([] : List (Nat × Blk))) [34] [3, 4, 6, 17, 18, 19] rfl (fun z14 hm => ?_) (fun x13 hm => ?_)
      · refine twp_draw follows  ?_
        iterate 2 (refine d_a [0, 1, 2, 3] tab_ok rfl ?_)
        refine d_b [0, 1, 2, 3] tab_ok rfl (fun q15 hq15 => ?_)
        cases q15
        · replace hm := ite_F hq15 hm
          iterate 3 (refine d_a [0, 1, 2, 3] tab_ok rfl ?_)
          obtain ⟨g16, hm⟩ := guard_inv hm
          refine d_x [0, 1, 2, 3] rfl rfl (x_ar rfl rfl rfl rfl g16) ?_
          obtain ⟨e17, he17, hm⟩ := get_inv hm
          refine d_x [0, 1, 2, 3] rfl rfl (x_ixo tab_ok rfl rfl rfl rfl he17 rfl) ?_
          refine d_x [0, 1, 2, 3] rfl rfl (x_ldo tab_ok rfl rfl rfl rfl he17.2 rfl) ?_
          obtain ⟨g18, hm⟩ := guard_inv hm
          refine d_x [0, 1, 2, 3] rfl rfl (Setting_ne rfl rfl rfl g18.1 g18.2) ?_
          refine d_a [0, 1, 2, 3] tab_ok rfl ?_
          refine d_tail ?_ (by kernel_rfl)
          refine tops_nil ?_
          refine way_then ?_
          exact ⟨_, [0, 1, 2, 3], (Option.some.inj hm).symm, rfl, k0, rfl⟩
        · replace hm := ite_T hq15 hm
          iterate 8 (refine d_a [0, 1, 2, 3] tab_ok rfl ?_)
          refine d_tail ?_ (by kernel_rfl)
          refine tops_nil ?_
          refine way_then ?_
          exact ⟨_, [0, 1, 2, 3], (Option.some.inj hm).symm, rfl, k0, rfl⟩
      · refine w_norm [3, 4, 6, 17, 18, 19, 34] rfl rfl ?_
        refine twp_cond _ rfl (fun h20 => ?_) (fun h20 => ?_)
        · replace hm := iteB_T h20 hm
          refine twp_region ?_
          iterate 2 (refine s_a tab_ok rfl ?_)
          refine s_x rfl rfl (x_lit [.tmp 36] tab_ok rfl rfl zero43 rfl rfl rfl rfl rfl) ?_
          obtain ⟨g21, hm⟩ := guard_inv hm
          refine s_app (f := Setting.enc) ([e12] : List Setting) tab_ok rfl rfl zero43 rfl rfl rfl rfl rfl (fun h => absurd h (Nat.not_lt_zero _)) rfl src_d g21 rfl rfl ?_
          refine s_a tab_ok rfl ?_
          refine tops_nil ?_
          refine way_block ?_
          refine way_then ?_
          refine w_norm [3, 4, 17, 18, 19] rfl rfl ?_
          refine twp_region ?_
          obtain ⟨g22, hm⟩ := guard_inv hm
          refine s_x rfl rfl (x_ar rfl rfl rfl rfl g22) ?_
          refine s_a tab_ok rfl ?_
          refine tops_nil ?_
          refine way_then ?_
          exact ⟨_, [0, 1, 2], (Option.some.inj hm).symm, rfl, k0, rfl⟩
        · replace hm := iteB_F h20 hm
          refine twp_skip ?_
          refine way_block ?_
          refine way_then ?_
          refine w_norm [3, 4, 17, 18, 19] rfl rfl ?_
          refine twp_region ?_
          obtain ⟨g23, hm⟩ := guard_inv hm
          refine s_x rfl rfl (x_ar rfl rfl rfl rfl g23) ?_
          refine s_a tab_ok rfl ?_
          refine tops_nil ?_
          refine way_then ?_
          exact ⟨_, [0, 1, 2], (Option.some.inj hm).symm, rfl, k0, rfl⟩
    · replace hm := ite_F h11 hm
      refine twp_exit ?_
      refine way_thenExit ?_
      obtain ⟨v24, hm, hz⟩ := inr_inv hm
      rw [hz10 _ hz] at hm
      refine way_thenExit ?_
      refine way_here ?_
      refine way_then ?_
      exact ⟨_, [0, 1, 2], (Option.some.inj hm).symm, rfl, k0, rfl⟩
  · refine w_norm [4] rfl rfl ?_
    refine twp_rseq ?_
    iterate 2 (refine s_a tab_ok rfl ?_)
    refine tops_nil ?_
    refine w_norm [2] rfl rfl ?_
    refine twp_ret ?_
    obtain rfl := Option.some.inj hm
    exact EndsS.one _ rfl (snap_map rfl) (.refl _)

theorem progress_proved_c {p0 : Table} {p1 : Inputs} {p2 : Route} {r : Bool} (hm : progress_proved p0 p1 p2 = some r) : RetN Try.prog 27 [p0.enc, p1.enc, p2.enc] (.bool (r)) := by
  refine .unit (ret_bodyS callB27 Try.func27 rfl Try.ntmps27 rfl rfl (fun wX gX => ?_)) rfl
  unfold progress_proved at hm
  refine w_norm [0, 1, 2] rfl rfl ?_
  refine twp_rseq ?_
  refine s_bx 0 rfl rfl rfl ?_
  refine s_bx 1 rfl rfl rfl ?_
  refine s_bx 2 rfl rfl rfl ?_
  refine s_a tab_ok rfl ?_
  refine tops_nil ?_
  refine w_norm [3, 4, 5] rfl rfl ?_
  refine w_joinS hm (fun _ => ([] : Fr)) (fun _ => ([] : List (Nat × Blk))) [] [3, 4, 5] rfl (fun z1 hm hz1 => ?_) (fun j hm => ?_)
  · refine twp_rseq ?_
    iterate 4 (refine s_a tab_ok rfl ?_)
    refine s_x rfl rfl (x_lit [.tmp 13, .tmp 15] tab_ok rfl rfl zero23 rfl rfl rfl rfl rfl) ?_
    obtain ⟨r2, hr2, hm⟩ := bind_inv hm
    refine s_x rfl rfl (rd_callRN rfl rfl (snaps_cons (.d _) snaps_nil) (slices_Concat_int_c hr2)) ?_
    refine s_x rfl rfl (x_len tab_ok rfl rfl rfl) ?_
    refine s_a tab_ok rfl ?_
    refine tops_nil ?_
    refine w_norm [3, 4, 5, 17, 18, 19] rfl rfl ?_
    refine twp_block ?_
    refine w_loop hm (fun x4 => ([(19, .d (.int .i64 x4))] : Fr)) (fun x4 => ([] : List (Nat × Blk))) [19] [3, 4, 5, 17, 18] [0, 1, 2] rfl k0 rfl rfl rfl rfl rfl (fun x4 z5 hm hz5 => ?_)
    refine w_norm [3, 4, 5, 17, 18, 19] rfl rfl ?_
    refine twp_rseq ?_
    refine s_a tab_ok rfl ?_
    refine tops_nil ?_
    refine w_norm [3, 4, 5, 17, 18, 19, 20] rfl rfl ?_
    refine twp_seq ?_
    refine twp_cond _ rfl (fun h6 => ?_) (fun h6 => ?_)
    · replace hm := ite_T h6 hm
      refine twp_skip ?_
      refine way_then ?_
      refine w_norm [3, 4, 5, 17, 18, 19] rfl rfl ?_
      refine twp_seq ?_
      refine twp_block ?_
      refine twp_rseq ?_
      obtain ⟨e7, he7, hm⟩ := get_inv hm
      refine s_x rfl rfl (x_ix tab_ok rfl rfl rfl rfl he7) ?_
      iterate 2 (refine s_a tab_ok rfl ?_)
      refine tops_nil ?_
      refine w_norm [3, 4, 5, 8, 17, 18, 19] rfl rfl ?_
      refine twp_rseq ?_
      iterate 2 (refine s_a tab_ok rfl ?_)
      obtain ⟨r8, hr8, hm⟩ := bind_inv hm
      refine s_x rfl rfl (rd_callRN rfl rfl (snaps_cons (.d _) (snaps_cons (.d _) snaps_nil)) (progress_Occupied_c hr8)) ?_
      refine tops_nil ?_
      refine w_norm [3, 4, 5, 17, 18, 19, 25] rfl rfl ?_
      refine twp_cond _ rfl (fun h9 => ?_) (fun h9 => ?_)
      · replace hm := iteB_T h9 hm
        refine twp_rseq ?_
        refine s_a tab_ok rfl ?_
        refine tops_nil ?_
        refine w_norm [6] rfl rfl ?_
        refine twp_ret ?_
        refine way_blockRet ?_
        refine way_thenRet ?_
        obtain ⟨v10, hm, hz⟩ := inr_inv hm
        rw [hz5 _ hz] at hm
        refine way_thenRet ?_
        refine way_blockRet ?_
        obtain ⟨v11, hm, hz⟩ := inr_inv hm
        rw [hz1 _ hz] at hm
        refine way_thenRet ?_
        obtain rfl := Option.some.inj hm
        exact EndsS.one _ rfl (.d _) (.refl _)
      · replace hm := iteB_F h9 hm
        refine twp_skip ?_
        refine way_block ?_
        refine way_then ?_
        refine w_norm [3, 4, 5, 17, 18, 19] rfl rfl ?_
        refine twp_region ?_
        obtain ⟨g12, hm⟩ := guard_inv hm
        refine s_x rfl rfl (x_ar rfl rfl rfl rfl g12) ?_
        refine s_a tab_ok rfl ?_
        refine tops_nil ?_
        refine way_then ?_
        exact ⟨_, [0, 1, 2], (Option.some.inj hm).symm, rfl, k0, rfl⟩
    · replace hm := ite_F h6 hm
      refine twp_exit ?_
      refine way_thenExit ?_
      obtain ⟨v13, hm, hz⟩ := inr_inv hm
      rw [hz5 _ hz] at hm
      refine way_thenExit ?_
      refine way_here ?_
      refine way_then ?_
      exact ⟨_, [0, 1, 2], (Option.some.inj hm).symm, rfl, k0, rfl⟩
  · refine w_norm [3, 4, 5] rfl rfl ?_
    refine w_joinS hm (fun _ => ([] : Fr)) (fun _ => ([] : List (Nat × Blk))) [] [] rfl (fun z14 hm hz14 => ?_) (fun j hm => ?_)
    · refine twp_rseq ?_
      refine s_a tab_ok rfl ?_
      obtain ⟨r15, hr15, hm⟩ := bind_inv hm
      refine s_x rfl rfl (rd_callRD rfl rfl rfl (table_Settings_c hr15)) ?_
      refine s_x rfl rfl (x_len tab_ok rfl rfl rfl) ?_
      refine s_a tab_ok rfl ?_
      refine tops_nil ?_
      refine w_norm [3, 4, 28, 29, 30] rfl rfl ?_
      refine twp_block ?_
      refine w_loop hm (fun x17 => ([(30, .d (.int .i64 x17))] : Fr)) (fun x17 => ([] : List (Nat × Blk))) [30] [3, 4, 28, 29] [0, 1, 2] rfl k0 rfl rfl rfl rfl rfl (fun x17 z18 hm hz18 => ?_)
      refine w_norm [3, 4, 28, 29, 30] rfl rfl ?_
      refine twp_rseq ?_
      refine s_a tab_ok rfl ?_
      refine tops_nil ?_
      refine w_norm [3, 4, 28, 29, 30, 31] rfl rfl ?_
      refine twp_seq ?_
      refine twp_cond _ rfl (fun h19 => ?_) (fun h19 => ?_)
      · replace hm := ite_T h19 hm
        refine twp_skip ?_
        refine way_then ?_
        refine w_norm [3, 4, 28, 29, 30] rfl rfl ?_
        refine twp_seq ?_
        refine twp_block ?_
        refine twp_rseq ?_
        obtain ⟨e20, he20, hm⟩ := get_inv hm
        refine s_x rfl rfl (x_ix tab_ok rfl rfl rfl rfl he20) ?_
        refine s_a tab_ok rfl ?_
        refine s_al 3 rfl rfl zero43 rfl ?_
        refine s_a tab_ok rfl ?_
        refine tops_nil ?_
        refine w_norm [3, 4, 10, 28, 29, 30] rfl rfl ?_
        refine twp_rseq ?_
        iterate 3 (refine s_a tab_ok rfl ?_)
        obtain ⟨r21, hr21, hm⟩ := bind_inv hm
        refine s_x rfl rfl (rd_callRN rfl rfl (snaps_cons (.d _) (snaps_cons (.d _) snaps_nil)) (table_Index_c hr21)) ?_
        refine s_a tab_ok rfl ?_
        refine tops_nil ?_
        refine w_norm [3, 4, 10, 11, 28, 29, 30] rfl rfl ?_
        refine w_joinM hm (fun x22 => ([(52, .d (.bool (x22)))] : Fr)) (fun x22 => ([] : List (Nat × Blk))) [52] [3, 4, 28, 29, 30] rfl (fun z23 hm => ?_) (fun x22 hm => ?_)
        · refine twp_draw follows  ?_
          iterate 3 (refine d_a [0, 1, 2, 3] tab_ok rfl ?_)
          refine d_x [0, 1, 2, 3] rfl rfl (x_len tab_ok rfl rfl rfl) ?_
          refine d_a [0, 1, 2, 3] tab_ok rfl ?_
          refine d_b [0, 1, 2, 3] tab_ok rfl (fun q24 hq24 => ?_)
          cases q24
          · replace hm := ite_F hq24 hm
            iterate 3 (refine d_a [0, 1, 2, 3] tab_ok rfl ?_)
            obtain ⟨e25, he25, hm⟩ := get_inv hm
            refine d_x [0, 1, 2, 3] rfl rfl (x_ix tab_ok rfl rfl rfl rfl he25) ?_
            iterate 5 (refine d_a [0, 1, 2, 3] tab_ok rfl ?_)
            refine d_tail ?_ (by kernel_rfl)
            refine tops_nil ?_
            refine way_then ?_
            exact ⟨_, [0, 1, 2, 3], (Option.some.inj hm).symm, rfl, k0, rfl⟩
          · replace hm := ite_T hq24 hm
            iterate 9 (refine d_a [0, 1, 2, 3] tab_ok rfl ?_)
            refine d_tail ?_ (by kernel_rfl)
            refine tops_nil ?_
            refine way_then ?_
            exact ⟨_, [0, 1, 2, 3], (Option.some.inj hm).symm, rfl, k0, rfl⟩
        · refine w_norm [3, 4, 28, 29, 30, 52] rfl rfl ?_
          refine twp_cond _ rfl (fun h26 => ?_) (fun h26 => ?_)
          · replace hm := iteB_T h26 hm
            refine twp_rseq ?_
            refine s_a tab_ok rfl ?_
            refine tops_nil ?_
            refine w_norm [6] rfl rfl ?_
            refine twp_ret ?_
            refine way_blockRet ?_
            refine way_thenRet ?_
            obtain ⟨v27, hm, hz⟩ := inr_inv hm
            rw [hz18 _ hz] at hm
            refine way_thenRet ?_
            refine way_blockRet ?_
            obtain ⟨v28, hm, hz⟩ := inr_inv hm
            rw [hz14 _ hz] at hm
            refine way_thenRet ?_
            obtain rfl := Option.some.inj hm
            exact EndsS.one _ rfl (.d _) (.refl _)
          · replace hm := iteB_F h26 hm
            refine twp_skip ?_
            refine way_block ?_
            refine way_then ?_
            refine w_norm [3, 4, 28, 29, 30] rfl rfl ?_
            refine twp_region ?_
            obtain ⟨g29, hm⟩ := guard_inv hm
            refine s_x rfl rfl (x_ar rfl rfl rfl rfl g29) ?_
            refine s_a tab_ok rfl ?_
            refine tops_nil ?_
            refine way_then ?_
            exact ⟨_, [0, 1, 2], (Option.some.inj hm).symm, rfl, k0, rfl⟩
      · replace hm := ite_F h19 hm
        refine twp_exit ?_
        refine way_thenExit ?_
        obtain ⟨v30, hm, hz⟩ := inr_inv hm
        rw [hz18 _ hz] at hm
        refine way_thenExit ?_
        refine way_here ?_
        refine way_then ?_
        exact ⟨_, [0, 1, 2], (Option.some.inj hm).symm, rfl, k0, rfl⟩
    · refine w_norm [] rfl rfl ?_
      refine twp_rseq ?_
      refine s_a tab_ok rfl ?_
      refine tops_nil ?_
      refine w_norm [6] rfl rfl ?_
      refine twp_ret ?_
      obtain rfl := Option.some.inj hm
      exact EndsS.one _ rfl (.d _) (.refl _)

theorem progress_view_clear_c {p0 : View} {r : RouteState} (hm : progress_view_clear p0 = some r) : RetN Try.prog 28 [p0.enc] (r.enc) := by
  refine .unit (ret_bodyS callB28 Try.func28 rfl Try.ntmps28 rfl rfl (fun wX gX => ?_)) rfl
  unfold progress_view_clear at hm
  refine w_norm [0] rfl rfl ?_
  refine twp_rseq ?_
  refine s_bx 0 rfl rfl rfl ?_
  refine s_al 1 rfl rfl zero36 rfl ?_
  refine tops_nil ?_
  refine w_norm [1, 2] rfl rfl ?_
  refine twp_seq ?_
  refine twp_block ?_
  refine twp_dseq follows  ?_
  iterate 5 (refine d_a [0, 1] tab_ok rfl ?_)
  obtain ⟨e1, he1, hm⟩ := get_inv hm
  refine d_x [0, 1] rfl rfl (x_ix tab_ok rfl rfl rfl rfl he1) ?_
  refine d_a [0, 1] tab_ok rfl ?_
  obtain ⟨r2, hr2, hm⟩ := bind_inv hm
  refine d_x [0, 1] rfl rfl (rd_callRN rfl rfl (snaps_cons (.d _) (snaps_cons (.d _) snaps_nil)) (progress_Occupied_c hr2)) ?_
  refine d_tail ?_ (by kernel_rfl)
  refine s_a tab_ok rfl ?_
  refine tops_nil ?_
  refine w_norm [1, 2, 3] rfl rfl ?_
  refine twp_cond _ rfl (fun h3 => ?_) (fun h3 => ?_)
  · replace hm := iteB_T h3 hm
    refine twp_rseq ?_
    refine s_x rfl rfl (build_d rfl plc36 zero36 rfl rfl rfl rfl) ?_
    refine s_a tab_ok rfl ?_
    refine tops_nil ?_
    refine w_norm [2] rfl rfl ?_
    refine twp_ret ?_
    refine way_blockRet ?_
    refine way_thenRet ?_
    obtain rfl := Option.some.inj hm
    exact EndsS.cellR _ tab_ok rfl rfl rfl rfl rfl (.d _)
  · replace hm := iteB_F h3 hm
    refine w_joinM hm (fun x4 => ([(13, .d (.bool (x4)))] : Fr)) (fun x4 => ([] : List (Nat × Blk))) [13] [1, 2] rfl (fun z5 hm => ?_) (fun x4 hm => ?_)
    · refine twp_region ?_
      iterate 2 (refine s_a tab_ok rfl ?_)
      refine s_b tab_ok rfl (fun q6 hq6 => ?_)
      cases q6
      · replace hm := iteB_F hq6 hm
        iterate 14 (refine s_a tab_ok rfl ?_)
        refine tops_nil ?_
        refine way_then ?_
        exact ⟨_, [0, 1], (Option.some.inj hm).symm, rfl, k0, rfl⟩
      · replace hm := iteB_T hq6 hm
        iterate 4 (refine s_a tab_ok rfl ?_)
        refine s_b tab_ok rfl (fun q7 hq7 => ?_)
        cases q7
        · replace hm := iteB_F hq7 hm
          iterate 9 (refine s_a tab_ok rfl ?_)
          refine tops_nil ?_
          refine way_then ?_
          exact ⟨_, [0, 1], (Option.some.inj hm).symm, rfl, k0, rfl⟩
        · replace hm := iteB_T hq7 hm
          iterate 5 (refine s_a tab_ok rfl ?_)
          obtain ⟨r8, hr8, hm⟩ := bind_inv hm
          refine s_x rfl rfl (rd_callRN rfl rfl (snaps_cons (.d _) (snaps_cons (.d _) snaps_nil)) (progress_Occupied_c hr8)) ?_
          iterate 3 (refine s_a tab_ok rfl ?_)
          refine tops_nil ?_
          refine way_then ?_
          exact ⟨_, [0, 1], (Option.some.inj hm).symm, rfl, k0, rfl⟩
    · refine w_norm [1, 2, 13] rfl rfl ?_
      refine twp_cond _ rfl (fun h9 => ?_) (fun h9 => ?_)
      · replace hm := iteB_T h9 hm
        refine twp_rseq ?_
        refine s_x rfl rfl (build_d rfl plc36 zero36 rfl rfl rfl rfl) ?_
        refine s_a tab_ok rfl ?_
        refine tops_nil ?_
        refine w_norm [2] rfl rfl ?_
        refine twp_ret ?_
        refine way_blockRet ?_
        refine way_thenRet ?_
        obtain rfl := Option.some.inj hm
        exact EndsS.cellR _ tab_ok rfl rfl rfl rfl rfl (.d _)
      · replace hm := iteB_F h9 hm
        refine w_joinM hm (fun x10 => ([(31, .d (.bool (x10)))] : Fr)) (fun x10 => ([] : List (Nat × Blk))) [31] [2] rfl (fun z11 hm => ?_) (fun x10 hm => ?_)
        · refine twp_region ?_
          iterate 2 (refine s_a tab_ok rfl ?_)
          refine s_b tab_ok rfl (fun q12 hq12 => ?_)
          cases q12
          · replace hm := iteB_F hq12 hm
            iterate 6 (refine s_a tab_ok rfl ?_)
            obtain ⟨r13, hr13, hm⟩ := bind_inv hm
            refine s_x rfl rfl (rd_callRN rfl rfl (snaps_cons (.d _) (snaps_cons (.d _) (snaps_cons (.d _) snaps_nil))) (progress_proved_c hr13)) ?_
            iterate 3 (refine s_a tab_ok rfl ?_)
            refine tops_nil ?_
            refine way_then ?_
            exact ⟨_, [0, 1], (Option.some.inj hm).symm, rfl, k0, rfl⟩
          · replace hm := iteB_T hq12 hm
            iterate 10 (refine s_a tab_ok rfl ?_)
            refine tops_nil ?_
            refine way_then ?_
            exact ⟨_, [0, 1], (Option.some.inj hm).symm, rfl, k0, rfl⟩
        · refine w_norm [2, 31] rfl rfl ?_
          refine twp_cond _ rfl (fun h14 => ?_) (fun h14 => ?_)
          · replace hm := iteB_T h14 hm
            refine twp_rseq ?_
            refine s_x rfl rfl (build_d rfl plc36 zero36 rfl rfl rfl rfl) ?_
            refine s_a tab_ok rfl ?_
            refine tops_nil ?_
            refine w_norm [2] rfl rfl ?_
            refine twp_ret ?_
            refine way_blockRet ?_
            refine way_thenRet ?_
            obtain rfl := Option.some.inj hm
            exact EndsS.cellR _ tab_ok rfl rfl rfl rfl rfl (.d _)
          · replace hm := iteB_F h14 hm
            refine twp_skip ?_
            refine way_block ?_
            refine way_then ?_
            refine w_norm [2] rfl rfl ?_
            refine twp_rseq ?_
            refine s_x rfl rfl (build_d rfl plc36 zero36 rfl rfl rfl rfl) ?_
            refine s_a tab_ok rfl ?_
            refine tops_nil ?_
            refine w_norm [2] rfl rfl ?_
            refine twp_ret ?_
            obtain rfl := Option.some.inj hm
            exact EndsS.cellR _ tab_ok rfl rfl rfl rfl rfl (.d _)

theorem progress_view_used_c {p0 : View} {r : RouteState} (hm : progress_view_used p0 = some r) : RetN Try.prog 29 [p0.enc] (r.enc) := by
  refine .unit (ret_bodyS callB29 Try.func29 rfl Try.ntmps29 rfl rfl (fun wX gX => ?_)) rfl
  unfold progress_view_used at hm
  refine w_norm [0] rfl rfl ?_
  refine twp_rseq ?_
  refine s_bx 0 rfl rfl rfl ?_
  refine s_al 1 rfl rfl zero36 rfl ?_
  refine tops_nil ?_
  refine w_norm [1, 2] rfl rfl ?_
  refine twp_dseq follows  ?_
  iterate 6 (refine d_a [0, 1] tab_ok rfl ?_)
  refine d_x [0, 1] rfl rfl (x_len tab_ok rfl rfl rfl) ?_
  obtain ⟨g1, hm⟩ := guard_inv hm
  refine d_x [0, 1] rfl rfl (x_ar rfl rfl rfl rfl g1) ?_
  refine d_a [0, 1] tab_ok rfl ?_
  refine d_tail ?_ (by kernel_rfl)
  refine s_a tab_ok rfl ?_
  refine tops_nil ?_
  refine w_norm [1, 2, 3, 4] rfl rfl ?_
  refine twp_rseq ?_
  refine s_a tab_ok rfl ?_
  refine s_x rfl rfl (build_d rfl plc36 zero36 rfl rfl rfl rfl) ?_
  refine s_al 2 rfl rfl zero36 rfl ?_
  refine s_a tab_ok rfl ?_
  refine tops_nil ?_
  refine w_norm [1, 2, 3, 4, 5] rfl rfl ?_
  refine twp_seq ?_
  refine twp_rseq ?_
  iterate 2 (refine s_a tab_ok rfl ?_)
  refine tops_nil ?_
  refine w_norm [1, 2, 3, 4, 5, 17] rfl rfl ?_
  refine twp_cond _ rfl (fun h2 => ?_) (fun h2 => ?_)
  · replace hm := iteB_T h2 hm
    refine twp_rseq ?_
    iterate 2 (refine s_a tab_ok rfl ?_)
    refine tops_nil ?_
    refine w_norm [2] rfl rfl ?_
    refine twp_ret ?_
    refine way_thenRet ?_
    obtain rfl := Option.some.inj hm
    exact EndsS.cellR _ tab_ok rfl rfl rfl rfl rfl (.d _)
  · replace hm := iteB_F h2 hm
    refine twp_skip ?_
    refine way_then ?_
    refine w_norm [1, 2, 3, 4, 5] rfl rfl ?_
    refine twp_seq ?_
    refine w_cut [(24, .d (.bool (((p0.cancelled) && (p0.emptied)))))] [24] [1, 2, 3, 4, 5] rfl ?_ ?_
    · refine twp_region ?_
      iterate 2 (refine s_a tab_ok rfl ?_)
      refine s_b tab_ok rfl (fun q3 hq3 => ?_)
      cases q3
      · iterate 3 (refine s_a tab_ok rfl ?_)
        refine tops_nil ?_
        refine way_then ?_
        exact ⟨[0, 1, 2], rfl, k0, st_eq (fr_cons (av_bool (by simp [hq3])) rfl) rfl⟩
      · iterate 3 (refine s_a tab_ok rfl ?_)
        refine tops_nil ?_
        refine way_then ?_
        exact ⟨[0, 1, 2], rfl, k0, st_eq (fr_cons (av_bool (by simp [hq3])) rfl) rfl⟩
    · refine w_norm [1, 2, 3, 4, 5, 24] rfl rfl ?_
      refine twp_cond _ rfl (fun h4 => ?_) (fun h4 => ?_)
      · replace hm := iteB_T h4 hm
        refine twp_rseq ?_
        refine s_a tab_ok rfl ?_
        refine s_x rfl rfl (build_d rfl plc36 zero36 rfl rfl rfl rfl) ?_
        refine s_a tab_ok rfl ?_
        refine tops_nil ?_
        refine w_norm [2] rfl rfl ?_
        refine twp_ret ?_
        refine way_thenRet ?_
        obtain rfl := Option.some.inj hm
        exact EndsS.cellR _ tab_ok rfl rfl rfl rfl rfl (.d _)
      · replace hm := iteB_F h4 hm
        refine twp_skip ?_
        refine way_then ?_
        refine w_norm [1, 2, 3, 4, 5] rfl rfl ?_
        refine twp_seq ?_
        refine twp_dseq follows  ?_
        iterate 6 (refine d_a [0, 1, 2] tab_ok rfl ?_)
        obtain ⟨e5, he5, hm⟩ := get_inv hm
        refine d_x [0, 1, 2] rfl rfl (x_ix tab_ok rfl rfl rfl rfl he5) ?_
        refine d_a [0, 1, 2] tab_ok rfl ?_
        obtain ⟨r6, hr6, hm⟩ := bind_inv hm
        refine d_x [0, 1, 2] rfl rfl (rd_callRN rfl rfl (snaps_cons (.d _) (snaps_cons (.d _) snaps_nil)) (progress_Occupied_c hr6)) ?_
        refine d_a [0, 1, 2] tab_ok rfl ?_
        refine d_tail ?_ (by kernel_rfl)
        refine tops_nil ?_
        refine w_norm [1, 2, 3, 4, 5, 36] rfl rfl ?_
        refine twp_cond _ rfl (fun h7 => ?_) (fun h7 => ?_)
        · replace hm := iteB_T h7 hm
          refine twp_seq ?_
          refine twp_rseq ?_
          iterate 3 (refine s_a tab_ok rfl ?_)
          refine tops_nil ?_
          refine w_norm [1, 2, 3, 5, 39] rfl rfl ?_
          refine twp_cond _ rfl (fun h8 => ?_) (fun h8 => ?_)
          · replace hm := ite_T h8 hm
            refine twp_rseq ?_
            refine s_x rfl rfl (build_d rfl plc36 zero36 rfl rfl rfl rfl) ?_
            refine s_a tab_ok rfl ?_
            refine tops_nil ?_
            refine w_norm [2] rfl rfl ?_
            refine twp_ret ?_
            refine way_thenRet ?_
            refine way_thenRet ?_
            obtain rfl := Option.some.inj hm
            exact EndsS.cellR _ tab_ok rfl rfl rfl rfl rfl (.d _)
          · replace hm := ite_F h8 hm
            refine twp_skip ?_
            refine way_then ?_
            refine w_norm [1, 2, 3, 5] rfl rfl ?_
            refine twp_seq ?_
            refine w_joinM hm (fun x9 => ([(54, .d (.bool (x9)))] : Fr)) (fun x9 => ([] : List (Nat × Blk))) [54] [2, 3, 5] rfl (fun z10 hm => ?_) (fun x9 hm => ?_)
            · refine twp_draw follows  ?_
              iterate 2 (refine d_a [0, 1, 2] tab_ok rfl ?_)
              refine d_b [0, 1, 2] tab_ok rfl (fun q11 hq11 => ?_)
              cases q11
              · replace hm := iteB_F hq11 hm
                iterate 6 (refine d_a [0, 1, 2] tab_ok rfl ?_)
                obtain ⟨g12, hm⟩ := guard_inv hm
                refine d_x [0, 1, 2] rfl rfl (x_ar rfl rfl rfl rfl g12) ?_
                obtain ⟨e13, he13, hm⟩ := get_inv hm
                refine d_x [0, 1, 2] rfl rfl (x_ix tab_ok rfl rfl rfl rfl he13) ?_
                refine d_a [0, 1, 2] tab_ok rfl ?_
                obtain ⟨r14, hr14, hm⟩ := bind_inv hm
                refine d_x [0, 1, 2] rfl rfl (rd_callRN rfl rfl (snaps_cons (.d _) (snaps_cons (.d _) snaps_nil)) (progress_Occupied_c hr14)) ?_
                refine d_a [0, 1, 2] tab_ok rfl ?_
                refine d_tail ?_ (by kernel_rfl)
                refine tops_nil ?_
                refine way_then ?_
                exact ⟨_, [0, 1, 2], (Option.some.inj hm).symm, rfl, k0, rfl⟩
              · replace hm := iteB_T hq11 hm
                iterate 11 (refine d_a [0, 1, 2] tab_ok rfl ?_)
                refine d_tail ?_ (by kernel_rfl)
                refine tops_nil ?_
                refine way_then ?_
                exact ⟨_, [0, 1, 2], (Option.some.inj hm).symm, rfl, k0, rfl⟩
            · refine w_norm [2, 3, 5, 54] rfl rfl ?_
              refine twp_cond _ rfl (fun h15 => ?_) (fun h15 => ?_)
              · replace hm := iteB_T h15 hm
                refine twp_region ?_
                refine s_a tab_ok rfl ?_
                obtain ⟨g16, hm⟩ := guard_inv hm
                refine s_x rfl rfl (x_ar rfl rfl rfl rfl g16) ?_
                iterate 2 (refine s_a tab_ok rfl ?_)
                refine tops_nil ?_
                refine way_then ?_
                refine w_norm [2, 5] rfl rfl ?_
                refine twp_rseq ?_
                iterate 2 (refine s_a tab_ok rfl ?_)
                refine tops_nil ?_
                refine w_norm [2] rfl rfl ?_
                refine twp_ret ?_
                refine way_thenRet ?_
                obtain rfl := Option.some.inj hm
                exact EndsS.cellR _ tab_ok rfl rfl rfl rfl rfl (.d _)
              · replace hm := iteB_F h15 hm
                refine twp_skip ?_
                refine way_then ?_
                refine w_norm [2, 5] rfl rfl ?_
                refine twp_rseq ?_
                iterate 2 (refine s_a tab_ok rfl ?_)
                refine tops_nil ?_
                refine w_norm [2] rfl rfl ?_
                refine twp_ret ?_
                refine way_thenRet ?_
                obtain rfl := Option.some.inj hm
                exact EndsS.cellR _ tab_ok rfl rfl rfl rfl rfl (.d _)
        · replace hm := iteB_F h7 hm
          refine twp_skip ?_
          refine way_then ?_
          refine w_norm [1, 2, 3, 4, 5] rfl rfl ?_
          refine twp_seq ?_
          refine twp_rseq ?_
          iterate 3 (refine s_a tab_ok rfl ?_)
          refine tops_nil ?_
          refine w_norm [1, 2, 5, 61] rfl rfl ?_
          refine twp_cond _ rfl (fun h17 => ?_) (fun h17 => ?_)
          · replace hm := ite_T h17 hm
            refine twp_rseq ?_
            iterate 2 (refine s_a tab_ok rfl ?_)
            refine tops_nil ?_
            refine w_norm [2] rfl rfl ?_
            refine twp_ret ?_
            refine way_thenRet ?_
            obtain rfl := Option.some.inj hm
            exact EndsS.cellR _ tab_ok rfl rfl rfl rfl rfl (.d _)
          · replace hm := ite_F h17 hm
            refine twp_skip ?_
            refine way_then ?_
            refine w_norm [1, 2, 5] rfl rfl ?_
            refine twp_seq ?_
            refine twp_rseq ?_
            iterate 3 (refine s_a tab_ok rfl ?_)
            obtain ⟨g18, hm⟩ := guard_inv hm
            refine s_x rfl rfl (x_ar rfl rfl rfl rfl g18) ?_
            iterate 2 (refine s_a tab_ok rfl ?_)
            refine tops_nil ?_
            refine w_norm [2, 5] rfl rfl ?_
            refine twp_rseq ?_
            iterate 3 (refine s_a tab_ok rfl ?_)
            refine tops_nil ?_
            refine w_norm [2, 5, 70] rfl rfl ?_
            refine twp_cond _ rfl (fun h19 => ?_) (fun h19 => ?_)
            · replace hm := ite_T h19 hm
              refine twp_rseq ?_
              refine s_x rfl rfl (build_d rfl plc36 zero36 rfl rfl rfl rfl) ?_
              refine s_a tab_ok rfl ?_
              refine tops_nil ?_
              refine w_norm [2] rfl rfl ?_
              refine twp_ret ?_
              refine way_thenRet ?_
              obtain rfl := Option.some.inj hm
              exact EndsS.cellR _ tab_ok rfl rfl rfl rfl rfl (.d _)
            · replace hm := ite_F h19 hm
              refine twp_skip ?_
              refine way_then ?_
              refine w_norm [2, 5] rfl rfl ?_
              refine twp_rseq ?_
              iterate 2 (refine s_a tab_ok rfl ?_)
              refine tops_nil ?_
              refine w_norm [2] rfl rfl ?_
              refine twp_ret ?_
              obtain rfl := Option.some.inj hm
              exact EndsS.cellR _ tab_ok rfl rfl rfl rfl rfl (.d _)

end Go.Proofs.Ytkhdhopgiooloaa
