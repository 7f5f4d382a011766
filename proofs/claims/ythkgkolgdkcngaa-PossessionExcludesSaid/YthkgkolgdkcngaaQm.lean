/- Texts of this proof, joined, without what it does not use. No condition. -/
import Derived.Shelf.SlSortCmp.NoneTotal
import Derived.Test.YthkgkolgdkcngaaQl

set_option maxHeartbeats 400000
set_option linter.unusedSimpArgs false
set_option linter.unusedVariables false
set_option maxRecDepth 20000
namespace Go.Proofs.Ythkgkolgdkcngaa
open Go Go.TL Go.Sort Go.Shelf Go.RowKit Go.Lib

def sort64_ren : Go.Shelf.Ren := ⟨fun | 6 => 64 | 15 => 76 | 14 => 75 | 28 => 88 | 29 => 89 | 20 => 80 | 21 => 81 | 22 => 82 | 23 => 83 | 24 => 84 | 25 => 85 | 26 => 86 | 27 => 87 | 46 => 91 | 47 => 92 | 48 => 93 | 49 => 94 | 50 => 95 | 57 => 96 | n => n, fun | 22 => 52 | 24 => 83 | 25 => 101 | 3 => 3 | 39 => 109 | 0 => 0 | 53 => 121 | 55 => 123 | 4 => 4 | 46 => 115 | 45 => 114 | 50 => 59 | 5 => 5 | 9 => 9 | 66 => 124 | 70 => 128 | 76 => 130 | 77 => 131 | n => n, fun | n => n⟩
theorem sort64 : Go.Proofs.SlLaysF0.n6 Try.prog sort64_ren where
  mixed := by kernel_rfl
  f6 := ⟨Try.f64.name, by kernel_rfl, Try.func64.trans (congrArg some (by kernel_rfl))⟩
  f14 := ⟨Try.f75.name, by kernel_rfl, Try.func75.trans (congrArg some (by kernel_rfl))⟩
  f15 := Try.func76.trans (congrArg some (by kernel_rfl))
  f20 := ⟨Try.f80.name, by kernel_rfl, Try.func80.trans (congrArg some (by kernel_rfl))⟩
  f21 := ⟨Try.f81.name, by kernel_rfl, Try.func81.trans (congrArg some (by kernel_rfl))⟩
  f22 := ⟨Try.f82.name, by kernel_rfl, Try.func82.trans (congrArg some (by kernel_rfl))⟩
  f23 := ⟨Try.f83.name, by kernel_rfl, Try.func83.trans (congrArg some (by kernel_rfl))⟩
  f24 := ⟨Try.f84.name, by kernel_rfl, Try.func84.trans (congrArg some (by kernel_rfl))⟩
  f25 := ⟨Try.f85.name, by kernel_rfl, Try.func85.trans (congrArg some (by kernel_rfl))⟩
  f26 := ⟨Try.f86.name, by kernel_rfl, Try.func86.trans (congrArg some (by kernel_rfl))⟩
  f27 := ⟨Try.f87.name, by kernel_rfl, Try.func87.trans (congrArg some (by kernel_rfl))⟩
  f28 := Try.func88.trans (congrArg some (by kernel_rfl))
  f29 := Try.func89.trans (congrArg some (by kernel_rfl))
  f46 := ⟨Try.f91.name, by kernel_rfl, Try.func91.trans (congrArg some (by kernel_rfl))⟩
  f47 := Try.func92.trans (congrArg some (by kernel_rfl))
  f48 := Try.func93.trans (congrArg some (by kernel_rfl))
  f49 := ⟨Try.f94.name, by kernel_rfl, Try.func94.trans (congrArg some (by kernel_rfl))⟩
  f50 := ⟨Try.f95.name, by kernel_rfl, Try.func95.trans (congrArg some (by kernel_rfl))⟩
  f57 := ⟨Try.f96.name, by kernel_rfl, Try.func96.trans (congrArg some (by kernel_rfl))⟩
  t0 := Try.underlying0
  a0 := Try.isAgg0
  z0 := Try.sizeOf0
  v0 := Try.zeroValue0
  t3 := Try.underlying3
  a3 := Try.isAgg3
  z3 := Try.sizeOf3
  v3 := Try.zeroValue3
  t4 := Try.underlying4
  a4 := Try.isAgg4
  z4 := Try.sizeOf4
  v4 := Try.zeroValue4
  t5 := Try.underlying5
  a5 := Try.isAgg5
  z5 := Try.sizeOf5
  v5 := Try.zeroValue5
  t9 := Try.underlying9
  a9 := Try.isAgg9
  z9 := Try.sizeOf9
  v9 := Try.zeroValue9
  t22 := Try.underlying52
  a22 := Try.isAgg52
  z22 := Try.sizeOf52
  v22 := Try.zeroValue52
  t25 := Try.underlying101
  a25 := Try.isAgg101
  z25 := Try.sizeOf101
  v25 := Try.zeroValue101
  t39 := Try.underlying109
  a39 := Try.isAgg109
  z39 := Try.sizeOf109
  v39 := Try.zeroValue109
  t45 := Try.underlying114
  a45 := Try.isAgg114
  z45 := Try.sizeOf114
  v45 := Try.zeroValue114
  t46 := Try.underlying115
  a46 := Try.isAgg115
  z46 := Try.sizeOf115
  v46 := Try.zeroValue115
  t50 := Try.underlying59
  a50 := Try.isAgg59
  z50 := Try.sizeOf59
  v50 := Try.zeroValue59
  t53 := Try.underlying121
  a53 := Try.isAgg121
  z53 := Try.sizeOf121
  v53 := Try.zeroValue121
  t55 := Try.underlying123
  a55 := Try.isAgg123
  z55 := Try.sizeOf123
  v55 := Try.zeroValue123
  t66 := Try.underlying124
  a66 := Try.isAgg124
  z66 := Try.sizeOf124
  v66 := Try.zeroValue124
  t70 := Try.underlying128
  a70 := Try.isAgg128
  z70 := Try.sizeOf128
  v70 := Try.zeroValue128
  t76 := Try.underlying130
  a76 := Try.isAgg130
  z76 := Try.sizeOf130
  v76 := Try.zeroValue130
  t77 := Try.underlying131
  a77 := Try.isAgg131
  z77 := Try.sizeOf131
  v77 := Try.zeroValue131
theorem slices_SortFunc_Setting_c {G : FuncId} {c : D} {cs : List D} {m : Setting → Setting → Option Int} (hs : SortOk m) (hfn : fnOf c = some (G, cs)) (hclo : ∀ a b r, m a b = some r → RetD Try.prog G ([a.enc, b.enc] ++ cs) (.int .i64 r)) (xs : List Setting) (hlen : xs.length ≤ 1000000000) : Ret Try.prog 64 [.flat 83 2 (xs.map Setting.enc)] (fun _ => false) [.msl 0 2 0 xs.length, .d c] (.tup []) [.flat 83 2 ((sortM m xs).map Setting.enc)] := by
  have hcb : callB Try.prog G = true := by
    obtain ⟨r, hr⟩ := hs.tot default default
    obtain ⟨_, _, _, h, _⟩ := hclo _ _ _ hr
    exact h.1
  have hlt : ltOf (fun x y => (m x y).getD 0) = ltM m := rfl
  have hS := ret_sortK (P := Try.prog) (F := 64) (G := G) (sz := 2) (f := Setting.enc) (c := c) (cs := cs) (cf := fun x y => (m x y).getD 0) (S := fun d => d.toList.mergeSort fun x y => !(ltM m) y x) 83 (fun _ => false) xs callB64 (fun _ => rfl) (fun _ => rfl) (fun _ => rfl) hfn
    (fun x y => by obtain ⟨r, hr⟩ := hs.tot x y; rw [hr]; exact hclo x y r hr) (by omega) (by rw [List.length_mergeSort])
    (fun p cap fv w => AnyF.slices_SortFunc_none { sort64 with } p cap fv w)
    (fun blk off cap cb d w hcl hH hb hl => AnyQ.slices_SortFunc_total sort64 2 Try.isAgg83 Try.sizeOf83 (fun x => (Setting.enc x).cells.map D.val) (fun _ => rfl) (fun x v hv => by obtain ⟨c, hc, rfl⟩ := List.mem_map.1 hv; simp only [Setting.enc, D.cells, List.mem_cons, List.not_mem_nil, or_false] at hc; rcases hc with rfl | rfl <;> rfl) (fun x y => (m x y).getD 0)
      ⟨hs.irrefl, hs.trans, hs.ntrans⟩ G cb blk off cap d w (callB_enters hcb) hcl hH hb hl hs.anti)
  rwa [show (xs.toArray.toList.mergeSort fun x y => !(ltM m) y x) = sortM m xs from sortM_merge hs xs] at hS

end Go.Proofs.Ythkgkolgdkcngaa

set_option maxHeartbeats 400000
set_option linter.unusedSimpArgs false
set_option linter.unusedVariables false
set_option maxRecDepth 20000
namespace Go.Proofs.Ythkgkolgdkcngaa
open Go Go.TL

theorem law42_small_c {p0 : Table} {p1 : Inter} {p2 : (List Possession)} {r : Bool} (hm : law42_small p0 p1 p2 = some r) : RetN Try.prog 9 [p0.enc, p1.enc, .sl 4 (p2.map Possession.enc)] (.bool (r)) := by
  refine .unit (ret_bodyS callB9 Try.func9 rfl Try.ntmps9 rfl rfl (fun wX gX => ?_)) rfl
  unfold law42_small at hm
  refine w_norm [0, 1, 2] rfl rfl ?_
  refine twp_rseq ?_
  refine s_bx 0 rfl rfl rfl ?_
  refine s_bx 1 rfl rfl rfl ?_
  refine s_a tab_ok rfl ?_
  refine tops_nil ?_
  refine w_norm [2, 3, 4] rfl rfl ?_
  refine w_joinS hm (fun _ => ([] : Fr)) (fun _ => ([] : List (Nat × Blk))) [] [2, 3, 4] rfl (fun z1 hm hz1 => ?_) (fun j hm => ?_)
  · refine twp_rseq ?_
    iterate 2 (refine s_a tab_ok rfl ?_)
    refine s_x rfl rfl (x_len tab_ok rfl rfl rfl) ?_
    refine s_a tab_ok rfl ?_
    refine tops_nil ?_
    refine w_norm [2, 3, 4, 10, 11, 12] rfl rfl ?_
    refine twp_block ?_
    refine w_loop hm (fun x3 => ([(12, .d (.int .i64 x3))] : Fr)) (fun x3 => ([] : List (Nat × Blk))) [12] [2, 3, 4, 10, 11] [0, 1] rfl k0 rfl rfl rfl rfl rfl (fun x3 z4 hm hz4 => ?_)
    refine w_norm [2, 3, 4, 10, 11, 12] rfl rfl ?_
    refine twp_rseq ?_
    refine s_a tab_ok rfl ?_
    refine tops_nil ?_
    refine w_norm [2, 3, 4, 10, 11, 12, 13] rfl rfl ?_
    refine twp_seq ?_
    refine twp_cond _ rfl (fun h5 => ?_) (fun h5 => ?_)
    · replace hm := ite_T h5 hm
      refine twp_skip ?_
      refine way_then ?_
      refine w_norm [2, 3, 4, 10, 11, 12] rfl rfl ?_
      refine twp_seq ?_
      refine twp_block ?_
      refine twp_rseq ?_
      obtain ⟨e6, he6, hm⟩ := get_inv hm
      refine s_x rfl rfl (x_ix tab_ok rfl rfl rfl rfl he6) ?_
      refine s_a tab_ok rfl ?_
      refine s_al 2 rfl rfl zero55 rfl ?_
      refine s_wkb 2 [none, none, none, some 3, some 2, some 1, none, none, some 3, some 2, some 1, some 2, some 1, some 2] rfl rfl ?_
      refine s_a tab_ok rfl ?_
      refine tops_nil ?_
      refine w_norm [2, 3, 4, 8, 10, 11, 12] rfl rfl ?_
      refine twp_rseq ?_
      iterate 2 (refine s_a tab_ok rfl ?_)
      refine s_x rfl rfl (x_len tab_ok rfl rfl rfl) ?_
      iterate 2 (refine s_a tab_ok rfl ?_)
      refine s_x rfl rfl (x_len tab_ok rfl rfl rfl) ?_
      obtain ⟨g7, hm⟩ := guard_inv hm
      refine s_x rfl rfl (x_ar rfl rfl rfl rfl g7) ?_
      iterate 2 (refine s_a tab_ok rfl ?_)
      refine s_x rfl rfl (x_len tab_ok rfl rfl rfl) ?_
      obtain ⟨g8, hm⟩ := guard_inv hm
      refine s_x rfl rfl (x_ar rfl rfl rfl rfl g8) ?_
      iterate 2 (refine s_a tab_ok rfl ?_)
      refine s_x rfl rfl (x_len tab_ok rfl rfl rfl) ?_
      obtain ⟨g9, hm⟩ := guard_inv hm
      refine s_x rfl rfl (x_ar rfl rfl rfl rfl g9) ?_
      iterate 2 (refine s_a tab_ok rfl ?_)
      refine s_x rfl rfl (x_len tab_ok rfl rfl rfl) ?_
      obtain ⟨g10, hm⟩ := guard_inv hm
      refine s_x rfl rfl (x_ar rfl rfl rfl rfl g10) ?_
      iterate 2 (refine s_a tab_ok rfl ?_)
      refine s_x rfl rfl (x_len tab_ok rfl rfl rfl) ?_
      obtain ⟨g11, hm⟩ := guard_inv hm
      refine s_x rfl rfl (x_ar rfl rfl rfl rfl g11) ?_
      refine s_a tab_ok rfl ?_
      refine tops_nil ?_
      refine w_norm [2, 3, 4, 10, 11, 12, 39] rfl rfl ?_
      refine twp_cond _ rfl (fun h12 => ?_) (fun h12 => ?_)
      · replace hm := ite_T h12 hm
        refine twp_rseq ?_
        refine s_a tab_ok rfl ?_
        refine tops_nil ?_
        refine w_norm [6] rfl rfl ?_
        refine twp_ret ?_
        refine way_blockRet ?_
        refine way_thenRet ?_
        obtain ⟨v13, hm, hz⟩ := inr_inv hm
        rw [hz4 _ hz] at hm
        refine way_thenRet ?_
        refine way_blockRet ?_
        obtain ⟨v14, hm, hz⟩ := inr_inv hm
        rw [hz1 _ hz] at hm
        refine way_thenRet ?_
        obtain rfl := Option.some.inj hm
        exact EndsS.one _ rfl (.d _) (.refl _)
      · replace hm := ite_F h12 hm
        refine twp_skip ?_
        refine way_block ?_
        refine way_then ?_
        refine w_norm [2, 3, 4, 10, 11, 12] rfl rfl ?_
        refine twp_region ?_
        obtain ⟨g15, hm⟩ := guard_inv hm
        refine s_x rfl rfl (x_ar rfl rfl rfl rfl g15) ?_
        refine s_a tab_ok rfl ?_
        refine tops_nil ?_
        refine way_then ?_
        exact ⟨_, [0, 1], (Option.some.inj hm).symm, rfl, k0, rfl⟩
    · replace hm := ite_F h5 hm
      refine twp_exit ?_
      refine way_thenExit ?_
      obtain ⟨v16, hm, hz⟩ := inr_inv hm
      rw [hz4 _ hz] at hm
      refine way_thenExit ?_
      refine way_here ?_
      refine way_then ?_
      exact ⟨_, [0, 1], (Option.some.inj hm).symm, rfl, k0, rfl⟩
  · refine w_norm [2, 3, 4] rfl rfl ?_
    refine w_cut [(6, .d (.bool (((decide ((p0.routes.length : Int) ≤ (100 : Int))) && ((decide ((p0.points.length : Int) ≤ (100 : Int))) && ((decide ((p1.routes.length : Int) ≤ (100 : Int))) && ((decide ((p1.lies.length : Int) ≤ (100 : Int))) && (decide ((p2.length : Int) ≤ (100 : Int))))))))))] [6] [] rfl ?_ ?_
    · refine twp_region ?_
      iterate 2 (refine s_a tab_ok rfl ?_)
      refine s_x rfl rfl (x_len tab_ok rfl rfl rfl) ?_
      refine s_a tab_ok rfl ?_
      refine s_b tab_ok rfl (fun q17 hq17 => ?_)
      cases q17
      · iterate 23 (refine s_a tab_ok rfl ?_)
        refine tops_nil ?_
        refine way_then ?_
        exact ⟨[0, 1], rfl, k0, st_eq (fr_cons (av_bool (by simp [hq17])) rfl) rfl⟩
      · iterate 2 (refine s_a tab_ok rfl ?_)
        refine s_x rfl rfl (x_len tab_ok rfl rfl rfl) ?_
        iterate 2 (refine s_a tab_ok rfl ?_)
        refine s_b tab_ok rfl (fun q18 hq18 => ?_)
        cases q18
        · iterate 17 (refine s_a tab_ok rfl ?_)
          refine tops_nil ?_
          refine way_then ?_
          exact ⟨[0, 1], rfl, k0, st_eq (fr_cons (av_bool (by simp [hq17, hq18])) rfl) rfl⟩
        · iterate 2 (refine s_a tab_ok rfl ?_)
          refine s_x rfl rfl (x_len tab_ok rfl rfl rfl) ?_
          iterate 2 (refine s_a tab_ok rfl ?_)
          refine s_b tab_ok rfl (fun q19 hq19 => ?_)
          cases q19
          · iterate 11 (refine s_a tab_ok rfl ?_)
            refine tops_nil ?_
            refine way_then ?_
            exact ⟨[0, 1], rfl, k0, st_eq (fr_cons (av_bool (by simp [hq17, hq18, hq19])) rfl) rfl⟩
          · iterate 2 (refine s_a tab_ok rfl ?_)
            refine s_x rfl rfl (x_len tab_ok rfl rfl rfl) ?_
            iterate 2 (refine s_a tab_ok rfl ?_)
            refine s_b tab_ok rfl (fun q20 hq20 => ?_)
            cases q20
            · iterate 5 (refine s_a tab_ok rfl ?_)
              refine tops_nil ?_
              refine way_then ?_
              exact ⟨[0, 1], rfl, k0, st_eq (fr_cons (av_bool (by simp [hq17, hq18, hq19, hq20])) rfl) rfl⟩
            · refine s_a tab_ok rfl ?_
              refine s_x rfl rfl (x_len tab_ok rfl rfl rfl) ?_
              iterate 3 (refine s_a tab_ok rfl ?_)
              refine tops_nil ?_
              refine way_then ?_
              exact ⟨[0, 1], rfl, k0, st_eq (fr_cons (av_bool (by simp [hq17, hq18, hq19, hq20])) rfl) rfl⟩
    · refine w_norm [6] rfl rfl ?_
      refine twp_ret ?_
      obtain rfl := Option.some.inj hm
      exact EndsS.one _ rfl (.d _) (.refl _)

theorem table_within_c {p0 : Int} {p1 : Int} {r : Bool} (hm : table_within p0 p1 = some r) : RetN Try.prog 48 [.int .i64 p0, .int .i64 p1] (.bool (r)) := by
  refine .unit (ret_bodyS callB48 Try.func48 rfl Try.ntmps48 rfl rfl (fun wX gX => ?_)) rfl
  unfold table_within at hm
  refine w_norm [0, 1] rfl rfl ?_
  refine twp_rseq ?_
  refine s_a tab_ok rfl ?_
  refine tops_nil ?_
  refine w_norm [0, 1] rfl rfl ?_
  refine w_cut [(4, .d (.bool (((decide ((0 : Int) ≤ p0)) && (decide (p0 < p1))))))] [4] [] rfl ?_ ?_
  · refine twp_region ?_
    iterate 2 (refine s_a tab_ok rfl ?_)
    refine s_b tab_ok rfl (fun q1 hq1 => ?_)
    cases q1
    · iterate 5 (refine s_a tab_ok rfl ?_)
      refine tops_nil ?_
      refine way_then ?_
      exact ⟨[], rfl, k0, st_eq (fr_cons (av_bool (by simp [hq1])) rfl) rfl⟩
    · iterate 5 (refine s_a tab_ok rfl ?_)
      refine tops_nil ?_
      refine way_then ?_
      exact ⟨[], rfl, k0, st_eq (fr_cons (av_bool (by simp [hq1])) rfl) rfl⟩
  · refine w_norm [4] rfl rfl ?_
    refine twp_ret ?_
    obtain rfl := Option.some.inj hm
    exact EndsS.one _ rfl (.d _) (.refl _)

theorem table_pointsRight_c {p0 : Table} {r : Bool} (hm : table_pointsRight p0 = some r) : RetN Try.prog 49 [p0.enc] (.bool (r)) := by
  refine .unit (ret_bodyS callB49 Try.func49 rfl Try.ntmps49 rfl rfl (fun wX gX => ?_)) rfl
  unfold table_pointsRight at hm
  refine w_norm [0] rfl rfl ?_
  refine twp_rseq ?_
  refine s_bx 0 rfl rfl rfl ?_
  refine s_a tab_ok rfl ?_
  refine tops_nil ?_
  refine w_norm [1] rfl rfl ?_
  refine twp_seq ?_
  refine twp_rseq ?_
  iterate 2 (refine s_a tab_ok rfl ?_)
  refine s_x rfl rfl (x_len tab_ok rfl rfl rfl) ?_
  iterate 2 (refine s_a tab_ok rfl ?_)
  refine s_x rfl rfl (x_len tab_ok rfl rfl rfl) ?_
  refine s_a tab_ok rfl ?_
  refine tops_nil ?_
  refine w_norm [1, 11] rfl rfl ?_
  refine twp_cond _ rfl (fun h1 => ?_) (fun h1 => ?_)
  · replace hm := iteN_T h1 hm
    refine twp_rseq ?_
    refine s_a tab_ok rfl ?_
    refine tops_nil ?_
    refine w_norm [2] rfl rfl ?_
    refine twp_ret ?_
    refine way_thenRet ?_
    obtain rfl := Option.some.inj hm
    exact EndsS.one _ rfl (.d _) (.refl _)
  · replace hm := iteN_F h1 hm
    refine twp_skip ?_
    refine way_then ?_
    refine w_norm [1] rfl rfl ?_
    refine w_joinS hm (fun _ => ([] : Fr)) (fun _ => ([] : List (Nat × Blk))) [] [] rfl (fun z2 hm hz2 => ?_) (fun j hm => ?_)
    · refine twp_rseq ?_
      iterate 2 (refine s_a tab_ok rfl ?_)
      refine s_x rfl rfl (x_len tab_ok rfl rfl rfl) ?_
      refine s_a tab_ok rfl ?_
      refine tops_nil ?_
      refine w_norm [1, 13, 14, 15] rfl rfl ?_
      refine twp_block ?_
      refine w_loop hm (fun x4 => ([(15, .d (.int .i64 x4))] : Fr)) (fun x4 => ([] : List (Nat × Blk))) [15] [1, 13, 14] [0] rfl k0 rfl rfl rfl rfl rfl (fun x4 z5 hm hz5 => ?_)
      refine w_norm [1, 13, 14, 15] rfl rfl ?_
      refine twp_rseq ?_
      refine s_a tab_ok rfl ?_
      refine tops_nil ?_
      refine w_norm [1, 13, 14, 15, 16] rfl rfl ?_
      refine twp_seq ?_
      refine twp_cond _ rfl (fun h6 => ?_) (fun h6 => ?_)
      · replace hm := ite_T h6 hm
        refine twp_skip ?_
        refine way_then ?_
        refine w_norm [1, 13, 14, 15] rfl rfl ?_
        refine twp_seq ?_
        refine twp_block ?_
        refine twp_rseq ?_
        refine s_a tab_ok rfl ?_
        obtain ⟨e7, he7, hm⟩ := get_inv hm
        refine s_x rfl rfl (x_ix tab_ok rfl rfl rfl rfl he7) ?_
        iterate 3 (refine s_a tab_ok rfl ?_)
        refine tops_nil ?_
        refine w_norm [1, 3, 4, 13, 14, 15] rfl rfl ?_
        refine w_joinM hm (fun x8 => ([(46, .d (.bool (x8)))] : Fr)) (fun x8 => ([] : List (Nat × Blk))) [46] [1, 13, 14, 15] rfl (fun z9 hm => ?_) (fun x8 hm => ?_)
        · refine twp_draw follows  ?_
          iterate 2 (refine d_a [0] tab_ok rfl ?_)
          refine d_b [0] tab_ok rfl (fun q10 hq10 => ?_)
          cases q10
          · replace hm := ite_F hq10 hm
            iterate 2 (refine d_a [0] tab_ok rfl ?_)
            refine d_b [0] tab_ok rfl (fun q11 hq11 => ?_)
            cases q11
            · replace hm := ite_F hq11 hm
              iterate 14 (refine d_a [0] tab_ok rfl ?_)
              obtain ⟨e12, he12, hm⟩ := get_inv hm
              refine d_x [0] rfl rfl (x_ix tab_ok rfl rfl rfl rfl he12) ?_
              iterate 3 (refine d_a [0] tab_ok rfl ?_)
              obtain ⟨r13, hr13, hm⟩ := bind_inv hm
              refine d_x [0] rfl rfl (rd_callRN rfl rfl (snaps_cons (.d _) (snaps_cons (.d _) snaps_nil)) (table_within_c hr13)) ?_
              iterate 2 (refine d_a [0] tab_ok rfl ?_)
              refine d_tail ?_ (by kernel_rfl)
              refine tops_nil ?_
              refine way_then ?_
              exact ⟨_, [0], (Option.some.inj hm).symm, rfl, k0, rfl⟩
            · replace hm := ite_T hq11 hm
              iterate 4 (refine d_a [0] tab_ok rfl ?_)
              obtain ⟨g14, hm⟩ := guard_inv hm
              refine d_x [0] rfl rfl (x_ar rfl rfl rfl rfl g14) ?_
              obtain ⟨e15, he15, hm⟩ := get_inv hm
              refine d_x [0] rfl rfl (x_ix tab_ok rfl rfl rfl rfl he15) ?_
              iterate 4 (refine d_a [0] tab_ok rfl ?_)
              refine d_b [0] tab_ok rfl (fun q16 hq16 => ?_)
              cases q16
              · replace hm := ite_F hq16 hm
                iterate 3 (refine d_a [0] tab_ok rfl ?_)
                obtain ⟨e17, he17, hm⟩ := get_inv hm
                refine d_x [0] rfl rfl (x_ix tab_ok rfl rfl rfl rfl he17) ?_
                iterate 3 (refine d_a [0] tab_ok rfl ?_)
                obtain ⟨r18, hr18, hm⟩ := bind_inv hm
                refine d_x [0] rfl rfl (rd_callRN rfl rfl (snaps_cons (.d _) (snaps_cons (.d _) snaps_nil)) (table_within_c hr18)) ?_
                iterate 2 (refine d_a [0] tab_ok rfl ?_)
                refine d_tail ?_ (by kernel_rfl)
                refine tops_nil ?_
                refine way_then ?_
                exact ⟨_, [0], (Option.some.inj hm).symm, rfl, k0, rfl⟩
              · replace hm := ite_T hq16 hm
                iterate 10 (refine d_a [0] tab_ok rfl ?_)
                refine d_tail ?_ (by kernel_rfl)
                refine tops_nil ?_
                refine way_then ?_
                exact ⟨_, [0], (Option.some.inj hm).symm, rfl, k0, rfl⟩
          · replace hm := ite_T hq10 hm
            iterate 24 (refine d_a [0] tab_ok rfl ?_)
            refine d_tail ?_ (by kernel_rfl)
            refine tops_nil ?_
            refine way_then ?_
            exact ⟨_, [0], (Option.some.inj hm).symm, rfl, k0, rfl⟩
        · refine w_norm [1, 13, 14, 15, 46] rfl rfl ?_
          refine twp_cond _ rfl (fun h19 => ?_) (fun h19 => ?_)
          · replace hm := iteB_T h19 hm
            refine twp_rseq ?_
            refine s_a tab_ok rfl ?_
            refine tops_nil ?_
            refine w_norm [2] rfl rfl ?_
            refine twp_ret ?_
            refine way_blockRet ?_
            refine way_thenRet ?_
            obtain ⟨v20, hm, hz⟩ := inr_inv hm
            rw [hz5 _ hz] at hm
            refine way_thenRet ?_
            refine way_blockRet ?_
            obtain ⟨v21, hm, hz⟩ := inr_inv hm
            rw [hz2 _ hz] at hm
            refine way_thenRet ?_
            obtain rfl := Option.some.inj hm
            exact EndsS.one _ rfl (.d _) (.refl _)
          · replace hm := iteB_F h19 hm
            refine twp_skip ?_
            refine way_block ?_
            refine way_then ?_
            refine w_norm [1, 13, 14, 15] rfl rfl ?_
            refine twp_region ?_
            obtain ⟨g22, hm⟩ := guard_inv hm
            refine s_x rfl rfl (x_ar rfl rfl rfl rfl g22) ?_
            refine s_a tab_ok rfl ?_
            refine tops_nil ?_
            refine way_then ?_
            exact ⟨_, [0], (Option.some.inj hm).symm, rfl, k0, rfl⟩
      · replace hm := ite_F h6 hm
        refine twp_exit ?_
        refine way_thenExit ?_
        obtain ⟨v23, hm, hz⟩ := inr_inv hm
        rw [hz5 _ hz] at hm
        refine way_thenExit ?_
        refine way_here ?_
        refine way_then ?_
        exact ⟨_, [0], (Option.some.inj hm).symm, rfl, k0, rfl⟩
    · refine w_norm [] rfl rfl ?_
      refine twp_rseq ?_
      refine s_a tab_ok rfl ?_
      refine tops_nil ?_
      refine w_norm [2] rfl rfl ?_
      refine twp_ret ?_
      obtain rfl := Option.some.inj hm
      exact EndsS.one _ rfl (.d _) (.refl _)

theorem slices_Concat_intGrow (n : Nat) (hn : n ≤ 1000000000) (mv : Nat → Bool) : Ret Try.prog 78 [] mv ([.nilsl, .int .i64 n].map .d) (.msl 0 1 0 0) [.flat 3 1 []] := by
  refine ret_body callB78 Try.func78 rfl Try.ntmps78 rfl rfl (fun wX gX => ?_)
  refine twp_norm [0, 1] (sub_d rfl (sub_d rfl .nil)) (blk_nil rfl) ?_
  refine twp_rseq ?_
  refine s_rd _ rfl (mv_d (.inr rfl) rfl) ?_
  refine tops_nil ?_
  refine twp_norm [0, 1] (sub_d rfl (sub_d rfl .nil)) (blk_nil rfl) ?_
  refine twp_seq ?_
  refine twp_rseq ?_
  refine s_rd _ rfl (mv_d (.inl rfl) rfl) ?_
  refine s_rd _ rfl (cmp_int rfl rfl rfl rfl) ?_
  refine tops_nil ?_
  refine twp_norm [0, 1, 6] (sub_d rfl (sub_d rfl (sub_d rfl .nil))) (blk_nil rfl) ?_
  refine twp_cond _ rfl (fun hneg => ?_) (fun hneg => ?_)
  · exact absurd (of_decide_eq_true hneg) (by omega)
  · refine twp_skip ?_
    refine way_then ?_
    refine twp_norm [0, 1] (sub_d rfl (sub_d rfl .nil)) (blk_nil rfl) ?_
    refine twp_seq ?_
    refine twp_rseq ?_
    refine s_rd _ rfl (mv_d (.inl rfl) rfl) ?_
    refine s_rd _ rfl (mv_d (.inl rfl) rfl) ?_
    refine s_rd _ rfl (cap_nil rfl sel23 rfl) ?_
    refine s_rd _ rfl (mv_d (.inl rfl) rfl) ?_
    refine s_rd _ rfl (len_nil rfl sel23 rfl) ?_
    refine s_rd _ rfl (arith_to (r := 0) rfl rfl rfl rfl rfl (by first | omega | (constructor <;> omega))) ?_
    refine s_rd _ rfl (arith_to (r := (n : Int)) rfl rfl rfl rfl (by omega) (by first | omega | (constructor <;> omega))) ?_
    refine s_rd _ rfl (mv_d (.inr rfl) rfl) ?_
    refine tops_nil ?_
    refine twp_norm [0, 1] (sub_d rfl (sub_d rfl .nil)) (blk_nil rfl) ?_
    refine twp_rseq ?_
    refine s_rd _ rfl (mv_d (.inl rfl) rfl) ?_
    refine s_rd _ rfl (cmp_int rfl rfl rfl rfl) ?_
    refine tops_nil ?_
    refine twp_norm [0, 1, 16] (sub_d rfl (sub_d rfl (sub_d rfl .nil))) (blk_nil rfl) ?_
    refine twp_cond _ rfl (fun hpos => ?_) (fun hpos => ?_)
    · have hpos : 0 < n := by simpa using hpos
      refine twp_region ?_
      refine s_rd _ rfl (mv_d (.inl rfl) rfl) ?_
      refine s_rd _ rfl (mv_d (.inl rfl) rfl) ?_
      refine s_rd _ rfl (cap_nil rfl sel23 rfl) ?_
      refine s_rd _ rfl (cut_nil rfl sel23 rfl rfl rfl) ?_
      refine s_rd _ rfl (mv_d (.inl rfl) rfl) ?_
      refine s_zeros (n := n) rfl sel23 Try.underlying3 zero3 rfl rfl rfl hpos (by decide) (by omega) (by omega) ?_
      refine s_rd _ rfl (mv_d (.inl rfl) rfl) ?_
      refine s_rd _ rfl (len_nil rfl sel23 rfl) ?_
      refine s_rd _ rfl (rd_cut_msl 0 1 8 0 n 0 0 rfl sel23 rfl rfl rfl (Nat.le_refl _) (Nat.zero_le _)) ?_
      refine s_rd _ rfl (mv_msl (.inr rfl) rfl) ?_
      refine tops_nil ?_
      refine way_then ?_
      refine twp_norm [0] (sub_msl rfl .nil) (blk_flat rfl (blk_nil rfl)) ?_
      refine twp_rseq ?_
      refine s_rd _ rfl (mv_msl (.inl rfl) rfl) ?_
      refine s_rd _ rfl (mv_msl (.inr rfl) rfl) ?_
      refine tops_nil ?_
      refine twp_norm [4] (sub_msl rfl .nil) (blk_flat rfl (blk_nil rfl)) ?_
      refine twp_ret ?_
      exact ⟨_, [0], res rfl, by decide, fun i hi => absurd hi (Nat.not_lt_zero i), rfl, rfl⟩
    · refine twp_upgrade 0 3 1 rfl ?_
      refine twp_skip ?_
      refine way_then ?_
      refine twp_norm [0] (sub_msl rfl .nil) (blk_flat rfl (blk_nil rfl)) ?_
      refine twp_rseq ?_
      refine s_rd _ rfl (mv_msl (.inl rfl) rfl) ?_
      refine s_rd _ rfl (mv_msl (.inr rfl) rfl) ?_
      refine tops_nil ?_
      refine twp_norm [4] (sub_msl rfl .nil) (blk_flat rfl (blk_nil rfl)) ?_
      refine twp_ret ?_
      exact ⟨_, [0], res rfl, by decide, fun i hi => absurd hi (Nat.not_lt_zero i), rfl, rfl⟩

theorem slices_Concat_intConcat (xss : List (List Int)) (hn : xss.length ≤ 1000) (ht : xss.flatten.length ≤ 1000000000) (mv : Nat → Bool) : Ret Try.prog 70 [] mv ([.sl 1 (xss.map fun l => .sl 1 (l.map (D.int .i64)))].map .d) (.msl 0 1 0 xss.flatten.length) [.flat 3 1 (xss.flatten.map (D.int .i64))] := by
  refine ret_body callB70 Try.func70 rfl Try.ntmps70 rfl rfl (fun wX gX => ?_)
  refine twp_norm [0] (sub_d rfl .nil) (blk_nil rfl) ?_
  refine twp_rseq ?_
  refine s_rd _ rfl (mv_d (.inr rfl) rfl) ?_
  refine tops_nil ?_
  refine twp_norm [0] (sub_d rfl .nil) (blk_nil rfl) ?_
  refine twp_rseq ?_
  refine s_rd _ rfl (mv_d (.inr rfl) rfl) ?_
  refine tops_nil ?_
  refine twp_norm [0, 3] (sub_d rfl (sub_d rfl .nil)) (blk_nil rfl) ?_
  refine twp_seq ?_
  refine twp_rseq ?_
  refine s_rd _ rfl (mv_d (.inl rfl) rfl) ?_
  refine s_rd _ rfl (by first | exact len_d rfl sel111 rfl (by first | exact List.length_map _ | rfl) | exact len_nil rfl sel111 rfl) ?_
  refine s_rd _ rfl (mv_d (.inl rfl) rfl) ?_
  refine tops_nil ?_
  refine twp_norm [0, 3, 9, 10, 11] (sub_d rfl (sub_d rfl (sub_d rfl (sub_d rfl (sub_d rfl .nil))))) (blk_nil rfl) ?_
  refine twp_block ?_
  refine twp_whileK (fun i => ([(3, .d (.int .i64 ((flatTo xss i).length : Int))), (11, .d (.int .i64 ((i : Nat) : Int)))] : Fr)) (fun i => ([] : List (Nat × Blk))) (fun i => i ≤ xss.length) (fun i => xss.length - i) [3, 11] [0, 9, 10] [] 0 (by decide) (fun i hi => absurd hi (Nat.not_lt_zero i)) (Nat.zero_le _) (sub_d rfl (sub_d rfl (sub_d rfl .nil))) rfl (by rw [flat_zero]; rfl) (blk_nil rfl) rfl ?_
  rintro i hok
  refine twp_norm [3, 11, 0, 9, 10] (sub_d rfl (sub_d rfl (sub_d rfl (sub_d rfl (sub_d rfl .nil))))) (blk_nil rfl) ?_
  refine twp_rseq ?_
  refine s_rd _ rfl (cmp_int rfl rfl rfl rfl) ?_
  refine tops_nil ?_
  refine twp_norm [0, 3, 9, 10, 11, 12] (sub_d rfl (sub_d rfl (sub_d rfl (sub_d rfl (sub_d rfl (sub_d rfl .nil)))))) (blk_nil rfl) ?_
  refine twp_seq ?_
  refine twp_cond _ rfl (fun hlt => ?_) (fun hlt => ?_)
  · have hlt : i < xss.length := by simpa using hlt
    obtain ⟨x, hx⟩ : ∃ x, (xss)[i]? = some x := ⟨_, List.getElem?_eq_getElem (by first | exact hlt | omega | (simp; omega))⟩
    have hs := flat_succ hx
    have hle := flat_le xss (i + 1)
    refine twp_skip ?_
    refine way_then ?_
    refine twp_norm [0, 3, 9, 10, 11] (sub_d rfl (sub_d rfl (sub_d rfl (sub_d rfl (sub_d rfl .nil))))) (blk_nil rfl) ?_
    refine twp_seq ?_
    refine twp_block ?_
    refine twp_rseq ?_
    refine s_rd _ rfl (index_sl rfl sel111 rfl rfl (idx_map hx)) ?_
    refine s_rd _ rfl (load_ptr rfl lay23 rfl rfl) ?_
    refine s_rd _ rfl (mv_d (.inr rfl) rfl) ?_
    refine tops_nil ?_
    refine twp_norm [0, 3, 5, 9, 10, 11] (sub_d rfl (sub_d rfl (sub_d rfl (sub_d rfl (sub_d rfl (sub_d rfl .nil)))))) (blk_nil rfl) ?_
    refine twp_rseq ?_
    refine s_rd _ rfl (mv_d (.inl rfl) rfl) ?_
    refine s_rd _ rfl (mv_d (.inl rfl) rfl) ?_
    refine s_rd _ rfl (by first | exact len_d rfl sel23 rfl (by first | exact List.length_map _ | rfl) | exact len_nil rfl sel23 rfl) ?_
    refine s_rd _ rfl (arith_to (r := ((flatTo xss (i + 1)).length : Int)) rfl rfl rfl rfl (by rw [hs]; simp) (by omega)) ?_
    refine s_rd _ rfl (mv_d (.inr rfl) rfl) ?_
    refine tops_nil ?_
    refine twp_norm [0, 3, 9, 10, 11] (sub_d rfl (sub_d rfl (sub_d rfl (sub_d rfl (sub_d rfl .nil))))) (blk_nil rfl) ?_
    refine twp_rseq ?_
    refine s_rd _ rfl (mv_d (.inl rfl) rfl) ?_
    refine s_rd _ rfl (cmp_int rfl rfl rfl rfl) ?_
    refine tops_nil ?_
    refine twp_norm [0, 3, 9, 10, 11, 20] (sub_d rfl (sub_d rfl (sub_d rfl (sub_d rfl (sub_d rfl (sub_d rfl .nil)))))) (blk_nil rfl) ?_
    refine twp_cond _ rfl (fun hneg => ?_) (fun hneg => ?_)
    · exact absurd (of_decide_eq_true hneg) (by omega)
    · refine twp_skip ?_
      refine way_block ?_
      refine way_then ?_
      refine twp_norm [0, 3, 9, 10, 11] (sub_d rfl (sub_d rfl (sub_d rfl (sub_d rfl (sub_d rfl .nil))))) (blk_nil rfl) ?_
      refine twp_region ?_
      refine s_rd _ rfl (arith_ok rfl rfl rfl rfl (by first | omega | (constructor <;> omega))) ?_
      refine s_rd _ rfl (mv_d (.inl rfl) rfl) ?_
      refine tops_nil ?_
      refine way_then ?_
      exact ⟨(i + 1), [], by decide, (fun i hi => absurd hi (Nat.not_lt_zero i)), (by omega), (by omega), rfl⟩
  · have hge : ¬ i < xss.length := by simpa using hlt
    have hi : i = xss.length := by omega
    refine twp_exit ?_
    refine way_thenExit ?_
    refine way_thenExit ?_
    refine way_here ?_
    refine way_then ?_
    refine twp_norm [0, 3] (sub_d rfl (sub_d rfl .nil)) (blk_nil rfl) ?_
    refine twp_rseq ?_
    refine s_rd _ rfl (mv_d (.inl rfl) rfl) ?_
    refine s_callD rfl rfl rfl (slices_Concat_intGrow _ (by have := flat_le xss i; omega) (fun _ => false)) rfl rfl ?_
    refine s_rd _ rfl (mv_msl (.inr rfl) rfl) ?_
    refine tops_nil ?_
    refine twp_norm [0, 6] (sub_d rfl (sub_msl rfl .nil)) (blk_flat rfl (blk_nil rfl)) ?_
    refine twp_seq ?_
    refine twp_rseq ?_
    refine s_rd _ rfl (mv_d (.inl rfl) rfl) ?_
    refine s_rd _ rfl (by first | exact len_d rfl sel111 rfl (by first | exact List.length_map _ | rfl) | exact len_nil rfl sel111 rfl) ?_
    refine s_rd _ rfl (mv_d (.inl rfl) rfl) ?_
    refine tops_nil ?_
    refine twp_norm [6, 25, 26, 27] (sub_msl rfl (sub_d rfl (sub_d rfl (sub_d rfl .nil)))) (blk_flat rfl (blk_nil rfl)) ?_
    refine twp_block ?_
    refine twp_whileK (fun i => ([(6, .msl 0 1 0 (flatTo xss i).length), (27, .d (.int .i64 ((i : Nat) : Int)))] : Fr)) (fun i => ([(0, .flat 3 1 ((flatTo xss i).map (D.int .i64)))] : List (Nat × Blk))) (fun i => i ≤ xss.length) (fun i => xss.length - i) [6, 27] [25, 26] [0] 0 (by decide) (fun i hi => absurd hi (Nat.not_lt_zero i)) (Nat.zero_le _) (sub_d rfl (sub_d rfl .nil)) rfl (by rw [flat_zero]; rfl) (blk_flat rfl (blk_nil rfl)) (by rw [flat_zero]; rfl) ?_
    rintro i hok
    refine twp_norm [6, 27, 25, 26] (sub_msl rfl (sub_d rfl (sub_d rfl (sub_d rfl .nil)))) (blk_flat rfl (blk_nil rfl)) ?_
    refine twp_rseq ?_
    refine s_rd _ rfl (cmp_int rfl rfl rfl rfl) ?_
    refine tops_nil ?_
    refine twp_norm [6, 25, 26, 27, 28] (sub_msl rfl (sub_d rfl (sub_d rfl (sub_d rfl (sub_d rfl .nil))))) (blk_flat rfl (blk_nil rfl)) ?_
    refine twp_seq ?_
    refine twp_cond _ rfl (fun hlt => ?_) (fun hlt => ?_)
    · have hlt : i < xss.length := by simpa using hlt
      obtain ⟨x, hx⟩ : ∃ x, (xss)[i]? = some x := ⟨_, List.getElem?_eq_getElem (by first | exact hlt | omega | (simp; omega))⟩
      have hs := flat_succ hx
      have hle := flat_le xss (i + 1)
      have hsl : (flatTo xss (i + 1)).length = (flatTo xss i).length + x.length := by rw [hs]; simp
      refine twp_skip ?_
      refine way_then ?_
      refine twp_norm [6, 25, 26, 27] (sub_msl rfl (sub_d rfl (sub_d rfl (sub_d rfl .nil)))) (blk_flat rfl (blk_nil rfl)) ?_
      refine twp_seq ?_
      refine twp_block ?_
      refine twp_rseq ?_
      refine s_rd _ rfl (index_sl rfl sel111 rfl rfl (idx_map hx)) ?_
      refine s_rd _ rfl (load_ptr rfl lay23 rfl rfl) ?_
      refine s_rd _ rfl (mv_d (.inr rfl) rfl) ?_
      refine tops_nil ?_
      refine twp_norm [6, 8, 25, 26, 27] (sub_msl rfl (sub_d rfl (sub_d rfl (sub_d rfl (sub_d rfl .nil))))) (blk_flat rfl (blk_nil rfl)) ?_
      refine twp_region ?_
      refine s_rd _ rfl (mv_msl (.inl rfl) rfl) ?_
      refine s_rd _ rfl (mv_d (.inl rfl) rfl) ?_
      refine s_append (m := (flatTo xss (i + 1)).length) (ds := x.map (D.int .i64)) (es' := (flatTo xss (i + 1)).map (D.int .i64)) rfl sel23 zero3 rfl rfl rfl (by simp) (fun h => absurd h (Nat.not_lt_zero _)) rfl ⟨rfl, (by first | rfl | (simp [List.map_take, List.map_drop]; done) | (rw [← List.map_drop, List.take_of_length_le (by simp)]))⟩ (by rw [hs]; simp) (by simp; omega) (by omega) (by omega) rfl rfl ?_
      refine s_rd _ rfl (mv_msl (.inr rfl) rfl) ?_
      refine tops_nil ?_
      refine way_block ?_
      refine way_then ?_
      refine twp_norm [6, 25, 26, 27] (sub_msl rfl (sub_d rfl (sub_d rfl (sub_d rfl .nil)))) (blk_flat rfl (blk_nil rfl)) ?_
      refine twp_region ?_
      refine s_rd _ rfl (arith_ok rfl rfl rfl rfl (by first | omega | (constructor <;> omega))) ?_
      refine s_rd _ rfl (mv_d (.inl rfl) rfl) ?_
      refine tops_nil ?_
      refine way_then ?_
      exact ⟨(i + 1), [0], by decide, (fun i hi => absurd hi (Nat.not_lt_zero i)), (by omega), (by omega), rfl⟩
    · have hge : ¬ i < xss.length := by simpa using hlt
      have hi : i = xss.length := by omega
      have hall := flat_all hge
      refine twp_exit ?_
      refine way_thenExit ?_
      refine way_thenExit ?_
      refine way_here ?_
      refine way_then ?_
      refine twp_norm [6] (sub_msl rfl .nil) (blk_flat rfl (blk_nil rfl)) ?_
      refine twp_rseq ?_
      refine s_rd _ rfl (mv_msl (.inl rfl) rfl) ?_
      refine s_rd _ rfl (mv_msl (.inr rfl) rfl) ?_
      refine tops_nil ?_
      refine twp_norm [2] (sub_msl rfl .nil) (blk_flat rfl (blk_nil rfl)) ?_
      refine twp_ret ?_
      rw [hall]
      exact ⟨_, [0], res rfl, by decide, fun i hi => absurd hi (Nat.not_lt_zero i), rfl, rfl⟩

theorem slices_Concat_int_c {p0 : List (List Int)} {r : List Int} (hm : slices_Concat_int p0 = some r) : RetN Try.prog 70 [.sl 1 (p0.map (fun l => D.sl 1 (l.map (D.int .i64))))] (.sl 1 (r.map (D.int .i64))) := by
  unfold slices_Concat_int at hm
  obtain ⟨g, hm⟩ := guard_inv hm
  obtain rfl := Option.some.inj hm
  exact .flat (slices_Concat_intConcat p0 g.1 g.2 (fun _ => false)) (by rw [List.length_map]) (fun e he => by obtain ⟨x, _, rfl⟩ := List.mem_map.1 he; rfl)

theorem table_routeRight_c {p0 : Table} {p1 : Route} {r : Bool} (hm : table_routeRight p0 p1 = some r) : RetN Try.prog 50 [p0.enc, p1.enc] (.bool (r)) := by
  refine .unit (ret_bodyS callB50 Try.func50 rfl Try.ntmps50 rfl rfl (fun wX gX => ?_)) rfl
  unfold table_routeRight at hm
  refine w_norm [0, 1] rfl rfl ?_
  refine twp_rseq ?_
  refine s_bx 0 rfl rfl rfl ?_
  refine s_bx 1 rfl rfl rfl ?_
  refine s_a tab_ok rfl ?_
  refine tops_nil ?_
  refine w_norm [2, 3] rfl rfl ?_
  refine twp_seq ?_
  refine w_joinM hm (fun x1 => ([(26, .d (.bool (x1)))] : Fr)) (fun x1 => ([] : List (Nat × Blk))) [26] [2, 3] rfl (fun z2 hm => ?_) (fun x1 hm => ?_)
  · refine twp_region ?_
    iterate 4 (refine s_a tab_ok rfl ?_)
    obtain ⟨r3, hr3, hm⟩ := bind_inv hm
    refine s_x rfl rfl (rd_callRN rfl rfl (snaps_cons (.d _) (snaps_cons (.d _) snaps_nil)) (table_within_c hr3)) ?_
    refine s_a tab_ok rfl ?_
    refine s_b tab_ok rfl (fun q4 hq4 => ?_)
    cases q4
    · replace hm := iteB_F hq4 hm
      iterate 3 (refine s_a tab_ok rfl ?_)
      refine s_b tab_ok rfl (fun q5 hq5 => ?_)
      cases q5
      · replace hm := iteN_F hq5 hm
        iterate 8 (refine s_a tab_ok rfl ?_)
        refine tops_nil ?_
        refine way_then ?_
        exact ⟨_, [0, 1], (Option.some.inj hm).symm, rfl, k0, rfl⟩
      · replace hm := iteN_T hq5 hm
        iterate 4 (refine s_a tab_ok rfl ?_)
        obtain ⟨r6, hr6, hm⟩ := bind_inv hm
        refine s_x rfl rfl (rd_callRN rfl rfl (snaps_cons (.d _) (snaps_cons (.d _) snaps_nil)) (table_within_c hr6)) ?_
        iterate 3 (refine s_a tab_ok rfl ?_)
        refine tops_nil ?_
        refine way_then ?_
        exact ⟨_, [0, 1], (Option.some.inj hm).symm, rfl, k0, rfl⟩
    · replace hm := iteB_T hq4 hm
      iterate 12 (refine s_a tab_ok rfl ?_)
      refine tops_nil ?_
      refine way_then ?_
      exact ⟨_, [0, 1], (Option.some.inj hm).symm, rfl, k0, rfl⟩
  · refine w_norm [2, 3, 26] rfl rfl ?_
    refine twp_cond _ rfl (fun h7 => ?_) (fun h7 => ?_)
    · replace hm := iteB_T h7 hm
      refine twp_rseq ?_
      refine s_a tab_ok rfl ?_
      refine tops_nil ?_
      refine w_norm [4] rfl rfl ?_
      refine twp_ret ?_
      refine way_thenRet ?_
      obtain rfl := Option.some.inj hm
      exact EndsS.one _ rfl (.d _) (.refl _)
    · replace hm := iteB_F h7 hm
      refine twp_skip ?_
      refine way_then ?_
      refine w_norm [2, 3] rfl rfl ?_
      refine twp_seq ?_
      refine w_cut [(42, .d (.bool (((decide ((p1.path.length : Int) < (1 : Int))) || ((decide ((12 : Int) < (p1.path.length : Int))) || (decide ((p1.sections.length : Int) = (0 : Int))))))))] [42] [2, 3] rfl ?_ ?_
      · refine twp_region ?_
        iterate 2 (refine s_a tab_ok rfl ?_)
        refine s_x rfl rfl (x_len tab_ok rfl rfl rfl) ?_
        refine s_a tab_ok rfl ?_
        refine s_b tab_ok rfl (fun q8 hq8 => ?_)
        cases q8
        · iterate 2 (refine s_a tab_ok rfl ?_)
          refine s_x rfl rfl (x_len tab_ok rfl rfl rfl) ?_
          iterate 2 (refine s_a tab_ok rfl ?_)
          refine s_b tab_ok rfl (fun q9 hq9 => ?_)
          cases q9
          · iterate 2 (refine s_a tab_ok rfl ?_)
            refine s_x rfl rfl (x_len tab_ok rfl rfl rfl) ?_
            iterate 2 (refine s_a tab_ok rfl ?_)
            refine tops_nil ?_
            refine way_then ?_
            exact ⟨[0, 1], rfl, k0, st_eq (fr_cons (av_bool (by simp [hq8, hq9])) rfl) rfl⟩
          · iterate 5 (refine s_a tab_ok rfl ?_)
            refine tops_nil ?_
            refine way_then ?_
            exact ⟨[0, 1], rfl, k0, st_eq (fr_cons (av_bool (by simp [hq8, hq9])) rfl) rfl⟩
        · iterate 11 (refine s_a tab_ok rfl ?_)
          refine tops_nil ?_
          refine way_then ?_
          exact ⟨[0, 1], rfl, k0, st_eq (fr_cons (av_bool (by simp [hq8])) rfl) rfl⟩
      · refine w_norm [2, 3, 42] rfl rfl ?_
        refine twp_cond _ rfl (fun h10 => ?_) (fun h10 => ?_)
        · replace hm := iteB_T h10 hm
          refine twp_rseq ?_
          refine s_a tab_ok rfl ?_
          refine tops_nil ?_
          refine w_norm [4] rfl rfl ?_
          refine twp_ret ?_
          refine way_thenRet ?_
          obtain rfl := Option.some.inj hm
          exact EndsS.one _ rfl (.d _) (.refl _)
        · replace hm := iteB_F h10 hm
          refine twp_skip ?_
          refine way_then ?_
          refine w_norm [2, 3] rfl rfl ?_
          refine twp_rseq ?_
          refine s_ala (f := D.bool) (x := false) 2 23 rfl rfl zero103 rfl rfl rfl ?_
          refine tops_nil ?_
          refine w_norm [2, 3, 5] rfl rfl ?_
          refine w_joinS hm (fun b11 => ([] : Fr)) (fun b11 => ([(2, .flat 103 1 (b11.map D.bool))] : List (Nat × Blk))) [] [2, 3] rfl (fun z12 hm hz12 => ?_) (fun b11 hm => ?_)
          · refine twp_rseq ?_
            iterate 4 (refine s_a tab_ok rfl ?_)
            refine s_x rfl rfl (x_lit [.tmp 44, .tmp 46] tab_ok rfl rfl zero23 rfl rfl rfl rfl rfl) ?_
            obtain ⟨r13, hr13, hm⟩ := bind_inv hm
            refine s_x rfl rfl (rd_callRN rfl rfl (snaps_cons (.d _) snaps_nil) (slices_Concat_int_c hr13)) ?_
            refine s_x rfl rfl (x_len tab_ok rfl rfl rfl) ?_
            refine s_a tab_ok rfl ?_
            refine tops_nil ?_
            refine w_norm [2, 3, 5, 48, 49, 50] rfl rfl ?_
            refine twp_block ?_
            refine w_loop hm (fun (x17, b18) => ([(50, .d (.int .i64 x17))] : Fr)) (fun (x17, b18) => ([(2, .flat 103 1 (b18.map D.bool))] : List (Nat × Blk))) [50] [2, 3, 5, 48, 49] [0, 1, 2] rfl k0 rfl rfl rfl rfl rfl (fun s z19 hm hz19 => ?_)
            obtain ⟨x17, b18⟩ := s
            refine w_norm [2, 3, 5, 48, 49, 50] rfl rfl ?_
            refine twp_rseq ?_
            refine s_a tab_ok rfl ?_
            refine tops_nil ?_
            refine w_norm [2, 3, 5, 48, 49, 50, 51] rfl rfl ?_
            refine twp_seq ?_
            refine twp_cond _ rfl (fun h20 => ?_) (fun h20 => ?_)
            · replace hm := ite_T h20 hm
              refine twp_skip ?_
              refine way_then ?_
              refine w_norm [2, 3, 5, 48, 49, 50] rfl rfl ?_
              refine twp_seq ?_
              refine twp_block ?_
              refine twp_rseq ?_
              obtain ⟨e21, he21, hm⟩ := get_inv hm
              refine s_x rfl rfl (x_ix tab_ok rfl rfl rfl rfl he21) ?_
              iterate 2 (refine s_a tab_ok rfl ?_)
              refine tops_nil ?_
              refine w_norm [2, 3, 5, 7, 48, 49, 50] rfl rfl ?_
              refine twp_seq ?_
              refine w_joinM hm (fun x22 => ([(63, .d (.bool (x22)))] : Fr)) (fun x22 => ([] : List (Nat × Blk))) [63] [2, 3, 5, 7, 48, 49, 50] rfl (fun z23 hm => ?_) (fun x22 hm => ?_)
              · refine twp_region ?_
                iterate 3 (refine s_a tab_ok rfl ?_)
                obtain ⟨r24, hr24, hm⟩ := bind_inv hm
                refine s_x rfl rfl (rd_callRN rfl rfl (snaps_cons (.d _) (snaps_cons (.d _) snaps_nil)) (table_within_c hr24)) ?_
                refine s_a tab_ok rfl ?_
                refine s_b tab_ok rfl (fun q25 hq25 => ?_)
                cases q25
                · replace hm := iteB_F hq25 hm
                  refine s_a tab_ok rfl ?_
                  obtain ⟨g27, hm⟩ := guard_inv hm
                  obtain ⟨e26, he26, hm⟩ := get_inv hm
                  refine s_x rfl rfl (x_ixa rfl asel103 rfl rfl he26 g27) ?_
                  refine s_x rfl rfl (x_ldo tab_ok rfl rfl rfl rfl he26.2 rfl) ?_
                  refine s_a tab_ok rfl ?_
                  refine tops_nil ?_
                  refine way_then ?_
                  exact ⟨_, [0, 1, 2], (Option.some.inj hm).symm, rfl, k0, rfl⟩
                · replace hm := iteB_T hq25 hm
                  iterate 4 (refine s_a tab_ok rfl ?_)
                  refine tops_nil ?_
                  refine way_then ?_
                  exact ⟨_, [0, 1, 2], (Option.some.inj hm).symm, rfl, k0, rfl⟩
              · refine w_norm [2, 3, 5, 7, 48, 49, 50, 63] rfl rfl ?_
                refine twp_cond _ rfl (fun h28 => ?_) (fun h28 => ?_)
                · replace hm := iteB_T h28 hm
                  refine twp_rseq ?_
                  refine s_a tab_ok rfl ?_
                  refine tops_nil ?_
                  refine w_norm [4] rfl rfl ?_
                  refine twp_ret ?_
                  refine way_thenRet ?_
                  refine way_blockRet ?_
                  refine way_thenRet ?_
                  obtain ⟨v29, hm, hz⟩ := inr_inv hm
                  rw [hz19 _ hz] at hm
                  refine way_thenRet ?_
                  refine way_blockRet ?_
                  obtain ⟨v30, hm, hz⟩ := inr_inv hm
                  rw [hz12 _ hz] at hm
                  refine way_thenRet ?_
                  obtain rfl := Option.some.inj hm
                  exact EndsS.one _ rfl (.d _) (.refl _)
                · replace hm := iteB_F h28 hm
                  refine twp_skip ?_
                  refine way_then ?_
                  refine w_norm [2, 3, 5, 7, 48, 49, 50] rfl rfl ?_
                  refine twp_region ?_
                  refine s_a tab_ok rfl ?_
                  obtain ⟨g32, hm⟩ := guard_inv hm
                  obtain ⟨e31, he31, hm⟩ := get_inv hm
                  refine s_x rfl rfl (x_ixa rfl asel103 rfl rfl he31 g32) ?_
                  refine s_sto (x' := true) tab_ok rfl rfl rfl rfl rfl he31.2 rfl rfl rfl ?_
                  refine tops_nil ?_
                  refine way_block ?_
                  refine way_then ?_
                  refine w_norm [2, 3, 5, 48, 49, 50] rfl rfl ?_
                  refine twp_region ?_
                  obtain ⟨g33, hm⟩ := guard_inv hm
                  refine s_x rfl rfl (x_ar rfl rfl rfl rfl g33) ?_
                  refine s_a tab_ok rfl ?_
                  refine tops_nil ?_
                  refine way_then ?_
                  exact ⟨_, [0, 1, 2], (Option.some.inj hm).symm, rfl, k0, rfl⟩
            · replace hm := ite_F h20 hm
              refine twp_exit ?_
              refine way_thenExit ?_
              obtain ⟨v34, hm, hz⟩ := inr_inv hm
              rw [hz19 _ hz] at hm
              refine way_thenExit ?_
              refine way_here ?_
              refine way_then ?_
              exact ⟨_, [0, 1, 2], (Option.some.inj hm).symm, rfl, k0, rfl⟩
          · refine w_norm [2, 3] rfl rfl ?_
            refine w_joinM hm (fun x35 => ([(4, .d (.bool (x35)))] : Fr)) (fun x35 => ([] : List (Nat × Blk))) [4] [] rfl (fun z36 hm => ?_) (fun x35 hm => ?_)
            · refine twp_region ?_
              iterate 4 (refine s_a tab_ok rfl ?_)
              obtain ⟨r37, hr37, hm⟩ := bind_inv hm
              refine s_x rfl rfl (rd_callRN rfl rfl (snaps_cons (.d _) (snaps_cons (.d _) snaps_nil)) (table_within_c hr37)) ?_
              refine s_b tab_ok rfl (fun q38 hq38 => ?_)
              cases q38
              · replace hm := iteB_F hq38 hm
                iterate 5 (refine s_a tab_ok rfl ?_)
                refine tops_nil ?_
                refine way_then ?_
                exact ⟨_, [0, 1, 2], (Option.some.inj hm).symm, rfl, k0, rfl⟩
              · replace hm := iteB_T hq38 hm
                iterate 5 (refine s_a tab_ok rfl ?_)
                refine tops_nil ?_
                refine way_then ?_
                exact ⟨_, [0, 1, 2], (Option.some.inj hm).symm, rfl, k0, rfl⟩
            · refine w_norm [4] rfl rfl ?_
              refine twp_ret ?_
              obtain rfl := Option.some.inj hm
              exact EndsS.one _ rfl (.d _) (.refl _)

theorem slices_Index_int_c {p0 : (List Int)} {p1 : Int} {r : Int} (hm : slices_Index_int p0 p1 = some r) : RetN Try.prog 69 [.sl 1 (p0.map (D.int .i64)), .int .i64 p1] (.int .i64 r) := by
  refine .unit (ret_bodyS callB69 Try.func69 rfl Try.ntmps69 rfl rfl (fun wX gX => ?_)) rfl
  unfold slices_Index_int at hm
  refine w_norm [0, 1] rfl rfl ?_
  refine twp_rseq ?_
  refine s_a tab_ok rfl ?_
  refine tops_nil ?_
  refine w_norm [0, 1] rfl rfl ?_
  refine w_joinS hm (fun _ => ([] : Fr)) (fun _ => ([] : List (Nat × Blk))) [] [] rfl (fun z1 hm hz1 => ?_) (fun j hm => ?_)
  · refine twp_rseq ?_
    refine s_a tab_ok rfl ?_
    refine s_x rfl rfl (x_len tab_ok rfl rfl rfl) ?_
    refine s_a tab_ok rfl ?_
    refine tops_nil ?_
    refine w_norm [0, 1, 7, 8] rfl rfl ?_
    refine twp_block ?_
    refine w_loop hm (fun x3 => ([(8, .d (.int .i64 x3))] : Fr)) (fun x3 => ([] : List (Nat × Blk))) [8] [0, 1, 7] [] rfl k0 rfl rfl rfl rfl rfl (fun x3 z4 hm hz4 => ?_)
    refine w_norm [0, 1, 7, 8] rfl rfl ?_
    refine twp_rseq ?_
    refine s_a tab_ok rfl ?_
    refine tops_nil ?_
    refine w_norm [0, 1, 7, 8, 9] rfl rfl ?_
    refine twp_seq ?_
    refine twp_cond _ rfl (fun h5 => ?_) (fun h5 => ?_)
    · replace hm := ite_T h5 hm
      refine twp_skip ?_
      refine way_then ?_
      refine w_norm [0, 1, 7, 8] rfl rfl ?_
      refine twp_seq ?_
      refine twp_block ?_
      refine twp_rseq ?_
      iterate 2 (refine s_a tab_ok rfl ?_)
      refine tops_nil ?_
      refine w_norm [0, 1, 5, 7, 8] rfl rfl ?_
      refine twp_rseq ?_
      iterate 3 (refine s_a tab_ok rfl ?_)
      obtain ⟨e6, he6, hm⟩ := get_inv hm
      refine s_x rfl rfl (x_ix tab_ok rfl rfl rfl rfl he6) ?_
      iterate 2 (refine s_a tab_ok rfl ?_)
      refine tops_nil ?_
      refine w_norm [0, 1, 5, 7, 8, 16] rfl rfl ?_
      refine twp_cond _ rfl (fun h7 => ?_) (fun h7 => ?_)
      · replace hm := ite_T h7 hm
        refine twp_rseq ?_
        iterate 2 (refine s_a tab_ok rfl ?_)
        refine tops_nil ?_
        refine w_norm [4] rfl rfl ?_
        refine twp_ret ?_
        refine way_blockRet ?_
        refine way_thenRet ?_
        obtain ⟨v8, hm, hz⟩ := inr_inv hm
        rw [hz4 _ hz] at hm
        refine way_thenRet ?_
        refine way_blockRet ?_
        obtain ⟨v9, hm, hz⟩ := inr_inv hm
        rw [hz1 _ hz] at hm
        refine way_thenRet ?_
        obtain rfl := Option.some.inj hm
        exact EndsS.one _ rfl (.d _) (.refl _)
      · replace hm := ite_F h7 hm
        refine twp_skip ?_
        refine way_block ?_
        refine way_then ?_
        refine w_norm [0, 1, 7, 8] rfl rfl ?_
        refine twp_region ?_
        obtain ⟨g10, hm⟩ := guard_inv hm
        refine s_x rfl rfl (x_ar rfl rfl rfl rfl g10) ?_
        refine s_a tab_ok rfl ?_
        refine tops_nil ?_
        refine way_then ?_
        exact ⟨_, [], (Option.some.inj hm).symm, rfl, k0, rfl⟩
    · replace hm := ite_F h5 hm
      refine twp_exit ?_
      refine way_thenExit ?_
      obtain ⟨v11, hm, hz⟩ := inr_inv hm
      rw [hz4 _ hz] at hm
      refine way_thenExit ?_
      refine way_here ?_
      refine way_then ?_
      exact ⟨_, [], (Option.some.inj hm).symm, rfl, k0, rfl⟩
  · refine w_norm [] rfl rfl ?_
    refine twp_rseq ?_
    refine s_a tab_ok rfl ?_
    refine tops_nil ?_
    refine w_norm [4] rfl rfl ?_
    refine twp_ret ?_
    obtain rfl := Option.some.inj hm
    exact EndsS.one _ rfl (.d _) (.refl _)

theorem table_Index_c {p0 : Table} {p1 : Int} {r : Int} (hm : table_Index p0 p1 = some r) : RetN Try.prog 47 [p0.enc, .int .i64 p1] (.int .i64 r) := by
  refine .unit (ret_bodyS callB47 Try.func47 rfl Try.ntmps47 rfl rfl (fun wX gX => ?_)) rfl
  unfold table_Index at hm
  refine w_norm [0, 1] rfl rfl ?_
  refine twp_rseq ?_
  refine s_bx 0 rfl rfl rfl ?_
  refine s_a tab_ok rfl ?_
  refine tops_nil ?_
  refine w_norm [1, 2] rfl rfl ?_
  refine twp_rseq ?_
  iterate 3 (refine s_a tab_ok rfl ?_)
  obtain ⟨r1, hr1, hm⟩ := bind_inv hm
  refine s_x rfl rfl (rd_callRN rfl rfl (snaps_cons (.d _) (snaps_cons (.d _) snaps_nil)) (slices_Index_int_c hr1)) ?_
  refine s_a tab_ok rfl ?_
  refine tops_nil ?_
  refine w_norm [4] rfl rfl ?_
  refine twp_ret ?_
  obtain rfl := Option.some.inj hm
  exact EndsS.one _ rfl (.d _) (.refl _)

theorem table_settingsRight_c {p0 : Table} {p1 : (List Setting)} {r : Bool} (hm : table_settingsRight p0 p1 = some r) : RetN Try.prog 51 [p0.enc, .sl 2 (p1.map Setting.enc)] (.bool (r)) := by
  refine .unit (ret_bodyS callB51 Try.func51 rfl Try.ntmps51 rfl rfl (fun wX gX => ?_)) rfl
  unfold table_settingsRight at hm
  refine w_norm [0, 1] rfl rfl ?_
  refine twp_rseq ?_
  refine s_bx 0 rfl rfl rfl ?_
  refine s_a tab_ok rfl ?_
  refine tops_nil ?_
  refine w_norm [1, 2] rfl rfl ?_
  refine w_joinS hm (fun _ => ([] : Fr)) (fun _ => ([] : List (Nat × Blk))) [] [] rfl (fun z1 hm hz1 => ?_) (fun j hm => ?_)
  · refine twp_rseq ?_
    refine s_a tab_ok rfl ?_
    refine s_x rfl rfl (x_len tab_ok rfl rfl rfl) ?_
    refine s_a tab_ok rfl ?_
    refine tops_nil ?_
    refine w_norm [1, 2, 7, 8, 9] rfl rfl ?_
    refine twp_block ?_
    refine w_loop hm (fun x3 => ([(9, .d (.int .i64 x3))] : Fr)) (fun x3 => ([] : List (Nat × Blk))) [9] [1, 2, 7, 8] [0] rfl k0 rfl rfl rfl rfl rfl (fun x3 z4 hm hz4 => ?_)
    refine w_norm [1, 2, 7, 8, 9] rfl rfl ?_
    refine twp_rseq ?_
    refine s_a tab_ok rfl ?_
    refine tops_nil ?_
    refine w_norm [1, 2, 7, 8, 9, 10] rfl rfl ?_
    refine twp_seq ?_
    refine twp_cond _ rfl (fun h5 => ?_) (fun h5 => ?_)
    · replace hm := ite_T h5 hm
      refine twp_skip ?_
      refine way_then ?_
      refine w_norm [1, 2, 7, 8, 9] rfl rfl ?_
      refine twp_seq ?_
      refine twp_block ?_
      refine twp_rseq ?_
      refine s_a tab_ok rfl ?_
      obtain ⟨e6, he6, hm⟩ := get_inv hm
      refine s_x rfl rfl (x_ix tab_ok rfl rfl rfl rfl he6) ?_
      refine s_a tab_ok rfl ?_
      refine s_al 1 rfl rfl zero83 rfl ?_
      iterate 2 (refine s_a tab_ok rfl ?_)
      refine tops_nil ?_
      refine w_norm [1, 2, 5, 6, 7, 8, 9] rfl rfl ?_
      refine twp_seq ?_
      refine w_joinM hm (fun x7 => ([(33, .d (.bool (x7)))] : Fr)) (fun x7 => ([] : List (Nat × Blk))) [33] [1, 2, 6, 7, 8, 9] rfl (fun z8 hm => ?_) (fun x7 hm => ?_)
      · refine twp_draw follows  ?_
        iterate 2 (refine d_a [0, 1] tab_ok rfl ?_)
        refine d_b [0, 1] tab_ok rfl (fun q9 hq9 => ?_)
        cases q9
        · replace hm := ite_F hq9 hm
          iterate 14 (refine d_a [0, 1] tab_ok rfl ?_)
          obtain ⟨r10, hr10, hm⟩ := bind_inv hm
          refine d_x [0, 1] rfl rfl (rd_callRN rfl rfl (snaps_cons (.d _) (snaps_cons (.d _) snaps_nil)) (table_Index_c hr10)) ?_
          iterate 2 (refine d_a [0, 1] tab_ok rfl ?_)
          refine d_tail ?_ (by kernel_rfl)
          refine tops_nil ?_
          refine way_then ?_
          exact ⟨_, [0, 1], (Option.some.inj hm).symm, rfl, k0, rfl⟩
        · replace hm := ite_T hq9 hm
          iterate 4 (refine d_a [0, 1] tab_ok rfl ?_)
          obtain ⟨g11, hm⟩ := guard_inv hm
          refine d_x [0, 1] rfl rfl (x_ar rfl rfl rfl rfl g11) ?_
          obtain ⟨e12, he12, hm⟩ := get_inv hm
          refine d_x [0, 1] rfl rfl (x_ix tab_ok rfl rfl rfl rfl he12) ?_
          iterate 4 (refine d_a [0, 1] tab_ok rfl ?_)
          refine d_b [0, 1] tab_ok rfl (fun q13 hq13 => ?_)
          cases q13
          · replace hm := ite_F hq13 hm
            iterate 3 (refine d_a [0, 1] tab_ok rfl ?_)
            obtain ⟨r14, hr14, hm⟩ := bind_inv hm
            refine d_x [0, 1] rfl rfl (rd_callRN rfl rfl (snaps_cons (.d _) (snaps_cons (.d _) snaps_nil)) (table_Index_c hr14)) ?_
            iterate 2 (refine d_a [0, 1] tab_ok rfl ?_)
            refine d_tail ?_ (by kernel_rfl)
            refine tops_nil ?_
            refine way_then ?_
            exact ⟨_, [0, 1], (Option.some.inj hm).symm, rfl, k0, rfl⟩
          · replace hm := ite_T hq13 hm
            iterate 6 (refine d_a [0, 1] tab_ok rfl ?_)
            refine d_tail ?_ (by kernel_rfl)
            refine tops_nil ?_
            refine way_then ?_
            exact ⟨_, [0, 1], (Option.some.inj hm).symm, rfl, k0, rfl⟩
      · refine w_norm [1, 2, 6, 7, 8, 9, 33] rfl rfl ?_
        refine twp_cond _ rfl (fun h15 => ?_) (fun h15 => ?_)
        · replace hm := iteB_T h15 hm
          refine twp_rseq ?_
          refine s_a tab_ok rfl ?_
          refine tops_nil ?_
          refine w_norm [4] rfl rfl ?_
          refine twp_ret ?_
          refine way_thenRet ?_
          refine way_blockRet ?_
          refine way_thenRet ?_
          obtain ⟨v16, hm, hz⟩ := inr_inv hm
          rw [hz4 _ hz] at hm
          refine way_thenRet ?_
          refine way_blockRet ?_
          obtain ⟨v17, hm, hz⟩ := inr_inv hm
          rw [hz1 _ hz] at hm
          refine way_thenRet ?_
          obtain rfl := Option.some.inj hm
          exact EndsS.one _ rfl (.d _) (.refl _)
        · replace hm := iteB_F h15 hm
          refine twp_skip ?_
          refine way_then ?_
          refine w_norm [1, 2, 6, 7, 8, 9] rfl rfl ?_
          refine w_cut [(41, .d (.bool (((!(decide (e6.pos = (1 : Int)))) && (!(decide (e6.pos = (2 : Int))))))))] [41] [1, 2, 7, 8, 9] rfl ?_ ?_
          · refine twp_region ?_
            iterate 3 (refine s_a tab_ok rfl ?_)
            refine s_b tab_ok rfl (fun q18 hq18 => ?_)
            cases q18
            · iterate 4 (refine s_a tab_ok rfl ?_)
              refine tops_nil ?_
              refine way_then ?_
              exact ⟨[0, 1], rfl, k0, st_eq (fr_cons (av_bool (by simp [hq18])) rfl) rfl⟩
            · iterate 4 (refine s_a tab_ok rfl ?_)
              refine tops_nil ?_
              refine way_then ?_
              exact ⟨[0, 1], rfl, k0, st_eq (fr_cons (av_bool (by simp [hq18])) rfl) rfl⟩
          · refine w_norm [1, 2, 7, 8, 9, 41] rfl rfl ?_
            refine twp_cond _ rfl (fun h19 => ?_) (fun h19 => ?_)
            · replace hm := iteB_T h19 hm
              refine twp_rseq ?_
              refine s_a tab_ok rfl ?_
              refine tops_nil ?_
              refine w_norm [4] rfl rfl ?_
              refine twp_ret ?_
              refine way_blockRet ?_
              refine way_thenRet ?_
              obtain ⟨v20, hm, hz⟩ := inr_inv hm
              rw [hz4 _ hz] at hm
              refine way_thenRet ?_
              refine way_blockRet ?_
              obtain ⟨v21, hm, hz⟩ := inr_inv hm
              rw [hz1 _ hz] at hm
              refine way_thenRet ?_
              obtain rfl := Option.some.inj hm
              exact EndsS.one _ rfl (.d _) (.refl _)
            · replace hm := iteB_F h19 hm
              refine twp_skip ?_
              refine way_block ?_
              refine way_then ?_
              refine w_norm [1, 2, 7, 8, 9] rfl rfl ?_
              refine twp_region ?_
              obtain ⟨g22, hm⟩ := guard_inv hm
              refine s_x rfl rfl (x_ar rfl rfl rfl rfl g22) ?_
              refine s_a tab_ok rfl ?_
              refine tops_nil ?_
              refine way_then ?_
              exact ⟨_, [0], (Option.some.inj hm).symm, rfl, k0, rfl⟩
    · replace hm := ite_F h5 hm
      refine twp_exit ?_
      refine way_thenExit ?_
      obtain ⟨v23, hm, hz⟩ := inr_inv hm
      rw [hz4 _ hz] at hm
      refine way_thenExit ?_
      refine way_here ?_
      refine way_then ?_
      exact ⟨_, [0], (Option.some.inj hm).symm, rfl, k0, rfl⟩
  · refine w_norm [] rfl rfl ?_
    refine twp_rseq ?_
    refine s_a tab_ok rfl ?_
    refine tops_nil ?_
    refine w_norm [4] rfl rfl ?_
    refine twp_ret ?_
    obtain rfl := Option.some.inj hm
    exact EndsS.one _ rfl (.d _) (.refl _)

theorem conflict_Agree_c {p0 : (List Setting)} {p1 : (List Setting)} {r : Bool} (hm : conflict_Agree p0 p1 = some r) : RetN Try.prog 45 [.sl 2 (p0.map Setting.enc), .sl 2 (p1.map Setting.enc)] (.bool (r)) := by
  refine .unit (ret_bodyS callB45 Try.func45 rfl Try.ntmps45 rfl rfl (fun wX gX => ?_)) rfl
  unfold conflict_Agree at hm
  refine w_norm [0, 1] rfl rfl ?_
  refine twp_rseq ?_
  refine s_a tab_ok rfl ?_
  refine tops_nil ?_
  refine w_norm [0, 1] rfl rfl ?_
  refine w_joinS hm (fun _ => ([] : Fr)) (fun _ => ([] : List (Nat × Blk))) [] [] rfl (fun z1 hm hz1 => ?_) (fun j hm => ?_)
  · refine twp_rseq ?_
    refine s_a tab_ok rfl ?_
    refine s_x rfl rfl (x_len tab_ok rfl rfl rfl) ?_
    refine s_a tab_ok rfl ?_
    refine tops_nil ?_
    refine w_norm [1, 9, 10, 11] rfl rfl ?_
    refine twp_block ?_
    refine w_loop hm (fun x3 => ([(11, .d (.int .i64 x3))] : Fr)) (fun x3 => ([] : List (Nat × Blk))) [11] [1, 9, 10] [] rfl k0 rfl rfl rfl rfl rfl (fun x3 z4 hm hz4 => ?_)
    refine w_norm [1, 9, 10, 11] rfl rfl ?_
    refine twp_rseq ?_
    refine s_a tab_ok rfl ?_
    refine tops_nil ?_
    refine w_norm [1, 9, 10, 11, 12] rfl rfl ?_
    refine twp_seq ?_
    refine twp_cond _ rfl (fun h5 => ?_) (fun h5 => ?_)
    · replace hm := ite_T h5 hm
      refine twp_skip ?_
      refine way_then ?_
      refine w_norm [1, 9, 10, 11] rfl rfl ?_
      refine w_joinS hm (fun _ => ([] : Fr)) (fun _ => ([] : List (Nat × Blk))) [] [1, 9, 10, 11] rfl (fun z6 hm hz6 => ?_) (fun j hm => ?_)
      · refine twp_block ?_
        refine twp_rseq ?_
        obtain ⟨e7, he7, hm⟩ := get_inv hm
        refine s_x rfl rfl (x_ix tab_ok rfl rfl rfl rfl he7) ?_
        refine s_a tab_ok rfl ?_
        refine s_al 0 rfl rfl zero83 rfl ?_
        refine s_a tab_ok rfl ?_
        refine tops_nil ?_
        refine w_norm [1, 6, 9, 10, 11] rfl rfl ?_
        refine twp_rseq ?_
        refine s_a tab_ok rfl ?_
        refine s_x rfl rfl (x_len tab_ok rfl rfl rfl) ?_
        refine s_a tab_ok rfl ?_
        refine tops_nil ?_
        refine w_norm [1, 6, 9, 10, 11, 15, 16, 17] rfl rfl ?_
        refine twp_block ?_
        refine w_loop hm (fun x9 => ([(17, .d (.int .i64 x9))] : Fr)) (fun x9 => ([] : List (Nat × Blk))) [17] [1, 6, 9, 10, 11, 15, 16] [0] rfl k0 rfl rfl rfl rfl rfl (fun x9 z10 hm hz10 => ?_)
        refine w_norm [1, 6, 9, 10, 11, 15, 16, 17] rfl rfl ?_
        refine twp_rseq ?_
        refine s_a tab_ok rfl ?_
        refine tops_nil ?_
        refine w_norm [1, 6, 9, 10, 11, 15, 16, 17, 18] rfl rfl ?_
        refine twp_seq ?_
        refine twp_cond _ rfl (fun h11 => ?_) (fun h11 => ?_)
        · replace hm := ite_T h11 hm
          refine twp_skip ?_
          refine way_then ?_
          refine w_norm [1, 6, 9, 10, 11, 15, 16, 17] rfl rfl ?_
          refine twp_seq ?_
          refine twp_block ?_
          refine twp_rseq ?_
          obtain ⟨e12, he12, hm⟩ := get_inv hm
          refine s_x rfl rfl (x_ix tab_ok rfl rfl rfl rfl he12) ?_
          refine s_a tab_ok rfl ?_
          refine s_al 1 rfl rfl zero83 rfl ?_
          refine s_a tab_ok rfl ?_
          refine tops_nil ?_
          refine w_norm [1, 6, 8, 9, 10, 11, 15, 16, 17] rfl rfl ?_
          refine w_cut [(32, .d (.bool (((decide (e7.el = e12.el)) && (!(decide (e7.pos = e12.pos)))))))] [32] [1, 6, 9, 10, 11, 15, 16, 17] rfl ?_ ?_
          · refine twp_region ?_
            iterate 5 (refine s_a tab_ok rfl ?_)
            refine s_b tab_ok rfl (fun q13 hq13 => ?_)
            cases q13
            · iterate 6 (refine s_a tab_ok rfl ?_)
              refine tops_nil ?_
              refine way_then ?_
              exact ⟨[0, 1], rfl, k0, st_eq (fr_cons (av_bool (by simp [hq13])) rfl) rfl⟩
            · iterate 6 (refine s_a tab_ok rfl ?_)
              refine tops_nil ?_
              refine way_then ?_
              exact ⟨[0, 1], rfl, k0, st_eq (fr_cons (av_bool (by simp [hq13])) rfl) rfl⟩
          · refine w_norm [1, 6, 9, 10, 11, 15, 16, 17, 32] rfl rfl ?_
            refine twp_cond _ rfl (fun h14 => ?_) (fun h14 => ?_)
            · replace hm := iteB_T h14 hm
              refine twp_rseq ?_
              refine s_a tab_ok rfl ?_
              refine tops_nil ?_
              refine w_norm [4] rfl rfl ?_
              refine twp_ret ?_
              refine way_blockRet ?_
              refine way_thenRet ?_
              obtain ⟨v15, hm, hz⟩ := inr_inv hm
              rw [hz10 _ hz] at hm
              refine way_thenRet ?_
              refine way_blockRet ?_
              refine way_blockRet ?_
              obtain ⟨v16, hm, hz⟩ := inr_inv hm
              rw [hz6 _ hz] at hm
              refine way_thenRet ?_
              obtain ⟨v17, hm, hz⟩ := inr_inv hm
              rw [hz4 _ hz] at hm
              refine way_thenRet ?_
              refine way_blockRet ?_
              obtain ⟨v18, hm, hz⟩ := inr_inv hm
              rw [hz1 _ hz] at hm
              refine way_thenRet ?_
              obtain rfl := Option.some.inj hm
              exact EndsS.one _ rfl (.d _) (.refl _)
            · replace hm := iteB_F h14 hm
              refine twp_skip ?_
              refine way_block ?_
              refine way_then ?_
              refine w_norm [1, 6, 9, 10, 11, 15, 16, 17] rfl rfl ?_
              refine twp_region ?_
              obtain ⟨g19, hm⟩ := guard_inv hm
              refine s_x rfl rfl (x_ar rfl rfl rfl rfl g19) ?_
              refine s_a tab_ok rfl ?_
              refine tops_nil ?_
              refine way_then ?_
              exact ⟨_, [0], (Option.some.inj hm).symm, rfl, k0, rfl⟩
        · replace hm := ite_F h11 hm
          refine twp_exit ?_
          refine way_thenExit ?_
          obtain ⟨v20, hm, hz⟩ := inr_inv hm
          rw [hz10 _ hz] at hm
          refine way_thenExit ?_
          refine way_here ?_
          refine way_block ?_
          refine way_then ?_
          exact ⟨_, [], (Option.some.inj hm).symm, rfl, k0, rfl⟩
      · refine w_norm [1, 9, 10, 11] rfl rfl ?_
        refine twp_region ?_
        obtain ⟨g21, hm⟩ := guard_inv hm
        refine s_x rfl rfl (x_ar rfl rfl rfl rfl g21) ?_
        refine s_a tab_ok rfl ?_
        refine tops_nil ?_
        refine way_then ?_
        exact ⟨_, [], (Option.some.inj hm).symm, rfl, k0, rfl⟩
    · replace hm := ite_F h5 hm
      refine twp_exit ?_
      refine way_thenExit ?_
      obtain ⟨v22, hm, hz⟩ := inr_inv hm
      rw [hz4 _ hz] at hm
      refine way_thenExit ?_
      refine way_here ?_
      refine way_then ?_
      exact ⟨_, [], (Option.some.inj hm).symm, rfl, k0, rfl⟩
  · refine w_norm [] rfl rfl ?_
    refine twp_rseq ?_
    refine s_a tab_ok rfl ?_
    refine tops_nil ?_
    refine w_norm [4] rfl rfl ?_
    refine twp_ret ?_
    obtain rfl := Option.some.inj hm
    exact EndsS.one _ rfl (.d _) (.refl _)

theorem table_Check_c {p0 : Table} {r : Int} (hm : table_Check p0 = some r) : RetN Try.prog 25 [p0.enc] (.int .i64 r) := by
  refine .unit (ret_bodyS callB25 Try.func25 rfl Try.ntmps25 rfl rfl (fun wX gX => ?_)) rfl
  unfold table_Check at hm
  refine w_norm [0] rfl rfl ?_
  refine twp_rseq ?_
  refine s_bx 0 rfl rfl rfl ?_
  refine s_a tab_ok rfl ?_
  refine tops_nil ?_
  refine w_norm [1] rfl rfl ?_
  refine twp_seq ?_
  refine w_joinM hm (fun x1 => ([(33, .d (.bool (x1)))] : Fr)) (fun x1 => ([] : List (Nat × Blk))) [33] [1] rfl (fun z2 hm => ?_) (fun x1 hm => ?_)
  · refine twp_region ?_
    iterate 2 (refine s_a tab_ok rfl ?_)
    refine s_x rfl rfl (x_len tab_ok rfl rfl rfl) ?_
    refine s_a tab_ok rfl ?_
    refine s_b tab_ok rfl (fun q3 hq3 => ?_)
    cases q3
    · replace hm := ite_F hq3 hm
      iterate 2 (refine s_a tab_ok rfl ?_)
      refine s_x rfl rfl (x_len tab_ok rfl rfl rfl) ?_
      iterate 2 (refine s_a tab_ok rfl ?_)
      refine s_b tab_ok rfl (fun q4 hq4 => ?_)
      cases q4
      · replace hm := ite_F hq4 hm
        iterate 2 (refine s_a tab_ok rfl ?_)
        obtain ⟨r5, hr5, hm⟩ := bind_inv hm
        refine s_x rfl rfl (rd_callRN rfl rfl (snaps_cons (.d _) (snaps_cons (.d _) snaps_nil)) (table_within_c hr5)) ?_
        iterate 2 (refine s_a tab_ok rfl ?_)
        refine s_b tab_ok rfl (fun q6 hq6 => ?_)
        cases q6
        · replace hm := iteB_F hq6 hm
          iterate 2 (refine s_a tab_ok rfl ?_)
          obtain ⟨r7, hr7, hm⟩ := bind_inv hm
          refine s_x rfl rfl (rd_callRN rfl rfl (snaps_cons (.d _) (snaps_cons (.d _) snaps_nil)) (table_within_c hr7)) ?_
          iterate 2 (refine s_a tab_ok rfl ?_)
          refine tops_nil ?_
          refine way_then ?_
          exact ⟨_, [0], (Option.some.inj hm).symm, rfl, k0, rfl⟩
        · replace hm := iteB_T hq6 hm
          iterate 5 (refine s_a tab_ok rfl ?_)
          refine tops_nil ?_
          refine way_then ?_
          exact ⟨_, [0], (Option.some.inj hm).symm, rfl, k0, rfl⟩
      · replace hm := ite_T hq4 hm
        iterate 11 (refine s_a tab_ok rfl ?_)
        refine tops_nil ?_
        refine way_then ?_
        exact ⟨_, [0], (Option.some.inj hm).symm, rfl, k0, rfl⟩
    · replace hm := ite_T hq3 hm
      iterate 17 (refine s_a tab_ok rfl ?_)
      refine tops_nil ?_
      refine way_then ?_
      exact ⟨_, [0], (Option.some.inj hm).symm, rfl, k0, rfl⟩
  · refine w_norm [1, 33] rfl rfl ?_
    refine twp_cond _ rfl (fun h8 => ?_) (fun h8 => ?_)
    · replace hm := iteB_T h8 hm
      refine twp_rseq ?_
      refine s_a tab_ok rfl ?_
      refine tops_nil ?_
      refine w_norm [2] rfl rfl ?_
      refine twp_ret ?_
      refine way_thenRet ?_
      obtain rfl := Option.some.inj hm
      exact EndsS.one _ rfl (.d _) (.refl _)
    · replace hm := iteB_F h8 hm
      refine twp_skip ?_
      refine way_then ?_
      refine w_norm [1] rfl rfl ?_
      refine twp_seq ?_
      refine twp_rseq ?_
      refine s_a tab_ok rfl ?_
      obtain ⟨r9, hr9, hm⟩ := bind_inv hm
      refine s_x rfl rfl (rd_callRN rfl rfl (snaps_cons (.d _) snaps_nil) (table_pointsRight_c hr9)) ?_
      refine s_a tab_ok rfl ?_
      refine tops_nil ?_
      refine w_norm [1, 36] rfl rfl ?_
      refine twp_cond _ rfl (fun h10 => ?_) (fun h10 => ?_)
      · replace hm := iteB_T h10 hm
        refine twp_rseq ?_
        refine s_a tab_ok rfl ?_
        refine tops_nil ?_
        refine w_norm [2] rfl rfl ?_
        refine twp_ret ?_
        refine way_thenRet ?_
        obtain rfl := Option.some.inj hm
        exact EndsS.one _ rfl (.d _) (.refl _)
      · replace hm := iteB_F h10 hm
        refine twp_skip ?_
        refine way_then ?_
        refine w_norm [1] rfl rfl ?_
        refine w_joinS hm (fun _ => ([] : Fr)) (fun _ => ([] : List (Nat × Blk))) [] [1] rfl (fun z11 hm hz11 => ?_) (fun j hm => ?_)
        · refine twp_rseq ?_
          iterate 2 (refine s_a tab_ok rfl ?_)
          refine s_x rfl rfl (x_len tab_ok rfl rfl rfl) ?_
          refine s_a tab_ok rfl ?_
          refine tops_nil ?_
          refine w_norm [1, 38, 39, 40] rfl rfl ?_
          refine twp_block ?_
          refine w_loop hm (fun x13 => ([(40, .d (.int .i64 x13))] : Fr)) (fun x13 => ([] : List (Nat × Blk))) [40] [1, 38, 39] [0] rfl k0 rfl rfl rfl rfl rfl (fun x13 z14 hm hz14 => ?_)
          refine w_norm [1, 38, 39, 40] rfl rfl ?_
          refine twp_rseq ?_
          refine s_a tab_ok rfl ?_
          refine tops_nil ?_
          refine w_norm [1, 38, 39, 40, 41] rfl rfl ?_
          refine twp_seq ?_
          refine twp_cond _ rfl (fun h15 => ?_) (fun h15 => ?_)
          · replace hm := ite_T h15 hm
            refine twp_skip ?_
            refine way_then ?_
            refine w_norm [1, 38, 39, 40] rfl rfl ?_
            refine twp_seq ?_
            refine twp_block ?_
            refine twp_rseq ?_
            obtain ⟨e16, he16, hm⟩ := get_inv hm
            refine s_x rfl rfl (x_ix tab_ok rfl rfl rfl rfl he16) ?_
            refine s_a tab_ok rfl ?_
            refine s_al 1 rfl rfl zero55 rfl ?_
            refine s_wkb 1 [none, none, none, some 3, some 2, some 1, none, none, some 3, some 2, some 1, some 2, some 1, some 2] rfl rfl ?_
            refine s_a tab_ok rfl ?_
            refine tops_nil ?_
            refine w_norm [1, 4, 38, 39, 40] rfl rfl ?_
            refine twp_rseq ?_
            iterate 2 (refine s_a tab_ok rfl ?_)
            obtain ⟨r17, hr17, hm⟩ := bind_inv hm
            refine s_x rfl rfl (rd_callRN rfl rfl (snaps_cons (.d _) (snaps_cons (.d _) snaps_nil)) (table_routeRight_c hr17)) ?_
            refine s_a tab_ok rfl ?_
            refine tops_nil ?_
            refine w_norm [1, 38, 39, 40, 47] rfl rfl ?_
            refine twp_cond _ rfl (fun h18 => ?_) (fun h18 => ?_)
            · replace hm := iteB_T h18 hm
              refine twp_rseq ?_
              refine s_a tab_ok rfl ?_
              refine tops_nil ?_
              refine w_norm [2] rfl rfl ?_
              refine twp_ret ?_
              refine way_blockRet ?_
              refine way_thenRet ?_
              obtain ⟨v19, hm, hz⟩ := inr_inv hm
              rw [hz14 _ hz] at hm
              refine way_thenRet ?_
              refine way_blockRet ?_
              obtain ⟨v20, hm, hz⟩ := inr_inv hm
              rw [hz11 _ hz] at hm
              refine way_thenRet ?_
              obtain rfl := Option.some.inj hm
              exact EndsS.one _ rfl (.d _) (.refl _)
            · replace hm := iteB_F h18 hm
              refine twp_skip ?_
              refine way_block ?_
              refine way_then ?_
              refine w_norm [1, 38, 39, 40] rfl rfl ?_
              refine twp_region ?_
              obtain ⟨g21, hm⟩ := guard_inv hm
              refine s_x rfl rfl (x_ar rfl rfl rfl rfl g21) ?_
              refine s_a tab_ok rfl ?_
              refine tops_nil ?_
              refine way_then ?_
              exact ⟨_, [0], (Option.some.inj hm).symm, rfl, k0, rfl⟩
          · replace hm := ite_F h15 hm
            refine twp_exit ?_
            refine way_thenExit ?_
            obtain ⟨v22, hm, hz⟩ := inr_inv hm
            rw [hz14 _ hz] at hm
            refine way_thenExit ?_
            refine way_here ?_
            refine way_then ?_
            exact ⟨_, [0], (Option.some.inj hm).symm, rfl, k0, rfl⟩
        · refine w_norm [1] rfl rfl ?_
          refine w_joinS hm (fun _ => ([] : Fr)) (fun _ => ([] : List (Nat × Blk))) [] [1] rfl (fun z23 hm hz23 => ?_) (fun j hm => ?_)
          · refine twp_rseq ?_
            iterate 2 (refine s_a tab_ok rfl ?_)
            refine s_x rfl rfl (x_len tab_ok rfl rfl rfl) ?_
            refine s_a tab_ok rfl ?_
            refine tops_nil ?_
            refine w_norm [1, 50, 51, 52] rfl rfl ?_
            refine twp_block ?_
            refine w_loop hm (fun x25 => ([(52, .d (.int .i64 x25))] : Fr)) (fun x25 => ([] : List (Nat × Blk))) [52] [1, 50, 51] [0] rfl k0 rfl rfl rfl rfl rfl (fun x25 z26 hm hz26 => ?_)
            refine w_norm [1, 50, 51, 52] rfl rfl ?_
            refine twp_rseq ?_
            refine s_a tab_ok rfl ?_
            refine tops_nil ?_
            refine w_norm [1, 50, 51, 52, 53] rfl rfl ?_
            refine twp_seq ?_
            refine twp_cond _ rfl (fun h27 => ?_) (fun h27 => ?_)
            · replace hm := ite_T h27 hm
              refine twp_skip ?_
              refine way_then ?_
              refine w_norm [1, 50, 51, 52] rfl rfl ?_
              refine twp_seq ?_
              refine twp_block ?_
              refine twp_rseq ?_
              obtain ⟨e28, he28, hm⟩ := get_inv hm
              refine s_x rfl rfl (x_ix tab_ok rfl rfl rfl rfl he28) ?_
              refine s_a tab_ok rfl ?_
              refine s_al 1 rfl rfl zero55 rfl ?_
              refine s_wkb 1 [none, none, none, some 3, some 2, some 1, none, none, some 3, some 2, some 1, some 2, some 1, some 2] rfl rfl ?_
              refine s_a tab_ok rfl ?_
              refine tops_nil ?_
              refine w_norm [1, 6, 50, 51, 52] rfl rfl ?_
              refine w_joinM hm (fun x29 => ([(74, .d (.bool (x29)))] : Fr)) (fun x29 => ([] : List (Nat × Blk))) [74] [1, 50, 51, 52] rfl (fun z30 hm => ?_) (fun x29 hm => ?_)
              · refine twp_region ?_
                iterate 3 (refine s_a tab_ok rfl ?_)
                obtain ⟨r31, hr31, hm⟩ := bind_inv hm
                refine s_x rfl rfl (rd_callRN rfl rfl (snaps_cons (.d _) (snaps_cons (.d _) snaps_nil)) (table_settingsRight_c hr31)) ?_
                refine s_a tab_ok rfl ?_
                refine s_b tab_ok rfl (fun q32 hq32 => ?_)
                cases q32
                · replace hm := iteB_F hq32 hm
                  iterate 3 (refine s_a tab_ok rfl ?_)
                  obtain ⟨r33, hr33, hm⟩ := bind_inv hm
                  refine s_x rfl rfl (rd_callRN rfl rfl (snaps_cons (.d _) (snaps_cons (.d _) snaps_nil)) (table_settingsRight_c hr33)) ?_
                  iterate 2 (refine s_a tab_ok rfl ?_)
                  refine s_b tab_ok rfl (fun q34 hq34 => ?_)
                  cases q34
                  · replace hm := iteB_F hq34 hm
                    iterate 3 (refine s_a tab_ok rfl ?_)
                    obtain ⟨r35, hr35, hm⟩ := bind_inv hm
                    refine s_x rfl rfl (rd_callRN rfl rfl (snaps_cons (.d _) (snaps_cons (.d _) snaps_nil)) (table_settingsRight_c hr35)) ?_
                    iterate 2 (refine s_a tab_ok rfl ?_)
                    refine tops_nil ?_
                    refine way_then ?_
                    exact ⟨_, [0, 1], (Option.some.inj hm).symm, rfl, k0, rfl⟩
                  · replace hm := iteB_T hq34 hm
                    iterate 6 (refine s_a tab_ok rfl ?_)
                    refine tops_nil ?_
                    refine way_then ?_
                    exact ⟨_, [0, 1], (Option.some.inj hm).symm, rfl, k0, rfl⟩
                · replace hm := iteB_T hq32 hm
                  iterate 13 (refine s_a tab_ok rfl ?_)
                  refine tops_nil ?_
                  refine way_then ?_
                  exact ⟨_, [0, 1], (Option.some.inj hm).symm, rfl, k0, rfl⟩
              · refine w_norm [1, 50, 51, 52, 74] rfl rfl ?_
                refine twp_cond _ rfl (fun h36 => ?_) (fun h36 => ?_)
                · replace hm := iteB_T h36 hm
                  refine twp_rseq ?_
                  refine s_a tab_ok rfl ?_
                  refine tops_nil ?_
                  refine w_norm [2] rfl rfl ?_
                  refine twp_ret ?_
                  refine way_blockRet ?_
                  refine way_thenRet ?_
                  obtain ⟨v37, hm, hz⟩ := inr_inv hm
                  rw [hz26 _ hz] at hm
                  refine way_thenRet ?_
                  refine way_blockRet ?_
                  obtain ⟨v38, hm, hz⟩ := inr_inv hm
                  rw [hz23 _ hz] at hm
                  refine way_thenRet ?_
                  obtain rfl := Option.some.inj hm
                  exact EndsS.one _ rfl (.d _) (.refl _)
                · replace hm := iteB_F h36 hm
                  refine twp_skip ?_
                  refine way_block ?_
                  refine way_then ?_
                  refine w_norm [1, 50, 51, 52] rfl rfl ?_
                  refine twp_region ?_
                  obtain ⟨g39, hm⟩ := guard_inv hm
                  refine s_x rfl rfl (x_ar rfl rfl rfl rfl g39) ?_
                  refine s_a tab_ok rfl ?_
                  refine tops_nil ?_
                  refine way_then ?_
                  exact ⟨_, [0], (Option.some.inj hm).symm, rfl, k0, rfl⟩
            · replace hm := ite_F h27 hm
              refine twp_exit ?_
              refine way_thenExit ?_
              obtain ⟨v40, hm, hz⟩ := inr_inv hm
              rw [hz26 _ hz] at hm
              refine way_thenExit ?_
              refine way_here ?_
              refine way_then ?_
              exact ⟨_, [0], (Option.some.inj hm).symm, rfl, k0, rfl⟩
          · refine w_norm [1] rfl rfl ?_
            refine w_joinS hm (fun _ => ([] : Fr)) (fun _ => ([] : List (Nat × Blk))) [] [1] rfl (fun z41 hm hz41 => ?_) (fun j hm => ?_)
            · refine twp_rseq ?_
              iterate 2 (refine s_a tab_ok rfl ?_)
              refine s_x rfl rfl (x_len tab_ok rfl rfl rfl) ?_
              refine s_a tab_ok rfl ?_
              refine tops_nil ?_
              refine w_norm [1, 77, 78, 79] rfl rfl ?_
              refine twp_block ?_
              refine w_loop hm (fun x43 => ([(79, .d (.int .i64 x43))] : Fr)) (fun x43 => ([] : List (Nat × Blk))) [79] [1, 77, 78] [0] rfl k0 rfl rfl rfl rfl rfl (fun x43 z44 hm hz44 => ?_)
              refine w_norm [1, 77, 78, 79] rfl rfl ?_
              refine twp_rseq ?_
              refine s_a tab_ok rfl ?_
              refine tops_nil ?_
              refine w_norm [1, 77, 78, 79, 80] rfl rfl ?_
              refine twp_seq ?_
              refine twp_cond _ rfl (fun h45 => ?_) (fun h45 => ?_)
              · replace hm := ite_T h45 hm
                refine twp_skip ?_
                refine way_then ?_
                refine w_norm [1, 77, 78, 79] rfl rfl ?_
                refine twp_seq ?_
                refine twp_block ?_
                refine twp_rseq ?_
                obtain ⟨e46, he46, hm⟩ := get_inv hm
                refine s_x rfl rfl (x_ix tab_ok rfl rfl rfl rfl he46) ?_
                refine s_a tab_ok rfl ?_
                refine s_al 1 rfl rfl zero55 rfl ?_
                refine s_wkb 1 [none, none, none, some 3, some 2, some 1, none, none, some 3, some 2, some 1, some 2, some 1, some 2] rfl rfl ?_
                refine s_a tab_ok rfl ?_
                refine tops_nil ?_
                refine w_norm [1, 8, 77, 78, 79] rfl rfl ?_
                refine w_joinM hm (fun x47 => ([(104, .d (.bool (x47)))] : Fr)) (fun x47 => ([] : List (Nat × Blk))) [104] [1, 77, 78, 79] rfl (fun z48 hm => ?_) (fun x47 hm => ?_)
                · refine twp_region ?_
                  iterate 4 (refine s_a tab_ok rfl ?_)
                  obtain ⟨r49, hr49, hm⟩ := bind_inv hm
                  refine s_x rfl rfl (rd_callRN rfl rfl (snaps_cons (.d _) (snaps_cons (.d _) snaps_nil)) (conflict_Agree_c hr49)) ?_
                  refine s_a tab_ok rfl ?_
                  refine s_b tab_ok rfl (fun q50 hq50 => ?_)
                  cases q50
                  · replace hm := iteB_F hq50 hm
                    iterate 4 (refine s_a tab_ok rfl ?_)
                    obtain ⟨r51, hr51, hm⟩ := bind_inv hm
                    refine s_x rfl rfl (rd_callRN rfl rfl (snaps_cons (.d _) (snaps_cons (.d _) snaps_nil)) (conflict_Agree_c hr51)) ?_
                    iterate 2 (refine s_a tab_ok rfl ?_)
                    refine s_b tab_ok rfl (fun q52 hq52 => ?_)
                    cases q52
                    · replace hm := iteB_F hq52 hm
                      iterate 4 (refine s_a tab_ok rfl ?_)
                      obtain ⟨r53, hr53, hm⟩ := bind_inv hm
                      refine s_x rfl rfl (rd_callRN rfl rfl (snaps_cons (.d _) (snaps_cons (.d _) snaps_nil)) (conflict_Agree_c hr53)) ?_
                      iterate 2 (refine s_a tab_ok rfl ?_)
                      refine tops_nil ?_
                      refine way_then ?_
                      exact ⟨_, [0, 1], (Option.some.inj hm).symm, rfl, k0, rfl⟩
                    · replace hm := iteB_T hq52 hm
                      iterate 7 (refine s_a tab_ok rfl ?_)
                      refine tops_nil ?_
                      refine way_then ?_
                      exact ⟨_, [0, 1], (Option.some.inj hm).symm, rfl, k0, rfl⟩
                  · replace hm := iteB_T hq50 hm
                    iterate 15 (refine s_a tab_ok rfl ?_)
                    refine tops_nil ?_
                    refine way_then ?_
                    exact ⟨_, [0, 1], (Option.some.inj hm).symm, rfl, k0, rfl⟩
                · refine w_norm [1, 77, 78, 79, 104] rfl rfl ?_
                  refine twp_cond _ rfl (fun h54 => ?_) (fun h54 => ?_)
                  · replace hm := iteB_T h54 hm
                    refine twp_rseq ?_
                    refine s_a tab_ok rfl ?_
                    refine tops_nil ?_
                    refine w_norm [2] rfl rfl ?_
                    refine twp_ret ?_
                    refine way_blockRet ?_
                    refine way_thenRet ?_
                    obtain ⟨v55, hm, hz⟩ := inr_inv hm
                    rw [hz44 _ hz] at hm
                    refine way_thenRet ?_
                    refine way_blockRet ?_
                    obtain ⟨v56, hm, hz⟩ := inr_inv hm
                    rw [hz41 _ hz] at hm
                    refine way_thenRet ?_
                    obtain rfl := Option.some.inj hm
                    exact EndsS.one _ rfl (.d _) (.refl _)
                  · replace hm := iteB_F h54 hm
                    refine twp_skip ?_
                    refine way_block ?_
                    refine way_then ?_
                    refine w_norm [1, 77, 78, 79] rfl rfl ?_
                    refine twp_region ?_
                    obtain ⟨g57, hm⟩ := guard_inv hm
                    refine s_x rfl rfl (x_ar rfl rfl rfl rfl g57) ?_
                    refine s_a tab_ok rfl ?_
                    refine tops_nil ?_
                    refine way_then ?_
                    exact ⟨_, [0], (Option.some.inj hm).symm, rfl, k0, rfl⟩
              · replace hm := ite_F h45 hm
                refine twp_exit ?_
                refine way_thenExit ?_
                obtain ⟨v58, hm, hz⟩ := inr_inv hm
                rw [hz44 _ hz] at hm
                refine way_thenExit ?_
                refine way_here ?_
                refine way_then ?_
                exact ⟨_, [0], (Option.some.inj hm).symm, rfl, k0, rfl⟩
            · refine w_norm [1] rfl rfl ?_
              refine twp_rseq ?_
              refine s_makeMap 9 4 rfl ?_
              refine s_eq 106 (.mmap 1) rfl rfl ?_
              refine s_a tab_ok rfl ?_
              refine tops_nil ?_
              refine w_norm [1, 9] rfl rfl ?_
              refine w_joinS hm (fun m59 => ([] : Fr)) (fun m59 => ([(1, .map 9 4 (pairMap D.str D.bool m59))] : List (Nat × Blk))) [] [] rfl (fun z60 hm hz60 => ?_) (fun m59 hm => ?_)
              · refine twp_rseq ?_
                iterate 2 (refine s_a tab_ok rfl ?_)
                refine s_x rfl rfl (x_len tab_ok rfl rfl rfl) ?_
                refine s_a tab_ok rfl ?_
                refine tops_nil ?_
                refine w_norm [9, 108, 109, 110] rfl rfl ?_
                refine twp_block ?_
                refine w_loop hm (fun (x64, b65) => ([(110, .d (.int .i64 x64))] : Fr)) (fun (x64, b65) => ([(1, .map 9 4 (pairMap D.str D.bool b65))] : List (Nat × Blk))) [110] [9, 108, 109] [0, 1] rfl k0 rfl rfl rfl rfl rfl (fun s z66 hm hz66 => ?_)
                obtain ⟨x64, b65⟩ := s
                refine w_norm [9, 108, 109, 110] rfl rfl ?_
                refine twp_rseq ?_
                refine s_a tab_ok rfl ?_
                refine tops_nil ?_
                refine w_norm [9, 108, 109, 110, 111] rfl rfl ?_
                refine twp_seq ?_
                refine twp_cond _ rfl (fun h67 => ?_) (fun h67 => ?_)
                · replace hm := ite_T h67 hm
                  refine twp_skip ?_
                  refine way_then ?_
                  refine w_norm [9, 108, 109, 110] rfl rfl ?_
                  refine twp_seq ?_
                  refine twp_block ?_
                  refine twp_rseq ?_
                  obtain ⟨e68, he68, hm⟩ := get_inv hm
                  refine s_x rfl rfl (x_ix tab_ok rfl rfl rfl rfl he68) ?_
                  refine s_a tab_ok rfl ?_
                  refine s_al 2 rfl rfl zero55 rfl ?_
                  refine s_wkb 2 [none, none, none, some 3, some 2, some 1, none, none, some 3, some 2, some 1, some 2, some 1, some 2] rfl rfl ?_
                  refine s_a tab_ok rfl ?_
                  refine tops_nil ?_
                  refine w_norm [9, 11, 108, 109, 110] rfl rfl ?_
                  refine twp_seq ?_
                  refine twp_rseq ?_
                  iterate 3 (refine s_a tab_ok rfl ?_)
                  obtain ⟨g69, hm⟩ := guard_inv hm
                  refine s_x rfl rfl (x_look0 keyF_str D.bool _ _ false rfl mty87 zero4 rfl rfl rfl rfl g69) ?_
                  refine tops_nil ?_
                  refine w_norm [9, 11, 108, 109, 110, 117] rfl rfl ?_
                  refine twp_cond _ rfl (fun h70 => ?_) (fun h70 => ?_)
                  · replace hm := iteB_T h70 hm
                    refine twp_rseq ?_
                    refine s_a tab_ok rfl ?_
                    refine tops_nil ?_
                    refine w_norm [2] rfl rfl ?_
                    refine twp_ret ?_
                    refine way_thenRet ?_
                    refine way_blockRet ?_
                    refine way_thenRet ?_
                    obtain ⟨v71, hm, hz⟩ := inr_inv hm
                    rw [hz66 _ hz] at hm
                    refine way_thenRet ?_
                    refine way_blockRet ?_
                    obtain ⟨v72, hm, hz⟩ := inr_inv hm
                    rw [hz60 _ hz] at hm
                    refine way_thenRet ?_
                    obtain rfl := Option.some.inj hm
                    exact EndsS.one _ rfl (.d _) (.refl _)
                  · replace hm := iteB_F h70 hm
                    refine twp_skip ?_
                    refine way_then ?_
                    refine w_norm [9, 11, 108, 109, 110] rfl rfl ?_
                    refine twp_region ?_
                    iterate 3 (refine s_a tab_ok rfl ?_)
                    obtain ⟨g73, hm⟩ := guard_inv hm
                    refine s_putE keyF_str D.bool mty87 rfl rfl rfl rfl g73 ?_
                    refine tops_nil ?_
                    refine way_block ?_
                    refine way_then ?_
                    refine w_norm [9, 108, 109, 110] rfl rfl ?_
                    refine twp_region ?_
                    obtain ⟨g74, hm⟩ := guard_inv hm
                    refine s_x rfl rfl (x_ar rfl rfl rfl rfl g74) ?_
                    refine s_a tab_ok rfl ?_
                    refine tops_nil ?_
                    refine way_then ?_
                    exact ⟨_, [0, 1], (Option.some.inj hm).symm, rfl, k0, rfl⟩
                · replace hm := ite_F h67 hm
                  refine twp_exit ?_
                  refine way_thenExit ?_
                  obtain ⟨v75, hm, hz⟩ := inr_inv hm
                  rw [hz66 _ hz] at hm
                  refine way_thenExit ?_
                  refine way_here ?_
                  refine way_then ?_
                  exact ⟨_, [0, 1], (Option.some.inj hm).symm, rfl, k0, rfl⟩
              · refine w_norm [] rfl rfl ?_
                refine twp_rseq ?_
                refine s_a tab_ok rfl ?_
                refine tops_nil ?_
                refine w_norm [2] rfl rfl ?_
                refine twp_ret ?_
                obtain rfl := Option.some.inj hm
                exact EndsS.one _ rfl (.d _) (.refl _)

end Go.Proofs.Ythkgkolgdkcngaa

set_option maxHeartbeats 400000
set_option linter.unusedSimpArgs false
set_option linter.unusedVariables false
set_option maxRecDepth 20000
namespace Go.Proofs.Ythkgkolgdkcngaa
open Go Go.TL

theorem possession_first_c {p0 : (List Possession)} {r : List (Int × Int)} (hm : possession_first p0 = some r) : Ret Try.prog 26 [] (fun _ => false) ([.sl 4 (p0.map Possession.enc)].map .d) (.mmap 0) [.map 3 3 (pairMap (D.int .i64) (D.int .i64) r)] := by
  refine ret_body callB26 Try.func26 rfl Try.ntmps26 rfl rfl (fun wX gX => ?_)
  unfold possession_first at hm
  refine w_norm [0] rfl rfl ?_
  refine twp_rseq ?_
  refine s_a tab_ok rfl ?_
  refine tops_nil ?_
  refine w_norm [0] rfl rfl ?_
  refine twp_rseq ?_
  refine s_makeMap 3 3 rfl ?_
  refine s_eq 8 (.mmap 0) rfl rfl ?_
  refine s_a tab_ok rfl ?_
  refine tops_nil ?_
  refine w_norm [0, 3] rfl rfl ?_
  refine w_joinM hm (fun m1 => ([] : Fr)) (fun m1 => ([(0, .map 3 3 (pairMap (D.int .i64) (D.int .i64) m1))] : List (Nat × Blk))) [] [3] rfl (fun z2 hm => ?_) (fun m1 hm => ?_)
  · refine twp_rseq ?_
    refine s_a tab_ok rfl ?_
    refine s_x rfl rfl (x_len tab_ok rfl rfl rfl) ?_
    refine s_a tab_ok rfl ?_
    refine tops_nil ?_
    refine w_norm [3, 9, 10, 11] rfl rfl ?_
    refine twp_block ?_
    refine w_loop hm (fun (x6, b7) => ([(11, .d (.int .i64 x6))] : Fr)) (fun (x6, b7) => ([(0, .map 3 3 (pairMap (D.int .i64) (D.int .i64) b7))] : List (Nat × Blk))) [11] [3, 9, 10] [0] rfl k0 rfl rfl rfl rfl rfl (fun s z8 hm hz8 => ?_)
    obtain ⟨x6, b7⟩ := s
    refine w_norm [3, 9, 10, 11] rfl rfl ?_
    refine twp_rseq ?_
    refine s_a tab_ok rfl ?_
    refine tops_nil ?_
    refine w_norm [3, 9, 10, 11, 12] rfl rfl ?_
    refine twp_seq ?_
    refine twp_cond _ rfl (fun h9 => ?_) (fun h9 => ?_)
    · replace hm := ite_T h9 hm
      refine twp_skip ?_
      refine way_then ?_
      refine w_norm [3, 9, 10, 11] rfl rfl ?_
      refine twp_seq ?_
      refine twp_block ?_
      refine twp_rseq ?_
      refine s_a tab_ok rfl ?_
      obtain ⟨e10, he10, hm⟩ := get_inv hm
      refine s_x rfl rfl (x_ix tab_ok rfl rfl rfl rfl he10) ?_
      refine s_a tab_ok rfl ?_
      refine s_al 1 rfl rfl zero31 rfl ?_
      iterate 2 (refine s_a tab_ok rfl ?_)
      refine tops_nil ?_
      refine w_norm [3, 4, 5, 9, 10, 11] rfl rfl ?_
      refine twp_rseq ?_
      iterate 3 (refine s_a tab_ok rfl ?_)
      obtain ⟨g11, hm⟩ := guard_inv hm
      refine s_x rfl rfl (x_look (keyF_int .i64) (D.int .i64) _ _ (0 : Int) rfl mty60 zero3 rfl rfl rfl rfl g11) ?_
      iterate 5 (refine s_a tab_ok rfl ?_)
      refine tops_nil ?_
      refine w_norm [3, 4, 5, 7, 9, 10, 11] rfl rfl ?_
      refine twp_rseq ?_
      iterate 2 (refine s_a tab_ok rfl ?_)
      refine tops_nil ?_
      refine w_norm [3, 4, 5, 9, 10, 11, 24] rfl rfl ?_
      refine twp_cond _ rfl (fun h12 => ?_) (fun h12 => ?_)
      · replace hm := iteB_T h12 hm
        refine twp_region ?_
        iterate 4 (refine s_a tab_ok rfl ?_)
        obtain ⟨g13, hm⟩ := guard_inv hm
        refine s_putE (keyF_int .i64) (D.int .i64) mty60 rfl rfl rfl rfl g13 ?_
        refine tops_nil ?_
        refine way_block ?_
        refine way_then ?_
        refine w_norm [3, 9, 10, 11] rfl rfl ?_
        refine twp_region ?_
        obtain ⟨g14, hm⟩ := guard_inv hm
        refine s_x rfl rfl (x_ar rfl rfl rfl rfl g14) ?_
        refine s_a tab_ok rfl ?_
        refine tops_nil ?_
        refine way_then ?_
        exact ⟨_, [0], (Option.some.inj hm).symm, rfl, k0, rfl⟩
      · replace hm := iteB_F h12 hm
        refine twp_skip ?_
        refine way_block ?_
        refine way_then ?_
        refine w_norm [3, 9, 10, 11] rfl rfl ?_
        refine twp_region ?_
        obtain ⟨g15, hm⟩ := guard_inv hm
        refine s_x rfl rfl (x_ar rfl rfl rfl rfl g15) ?_
        refine s_a tab_ok rfl ?_
        refine tops_nil ?_
        refine way_then ?_
        exact ⟨_, [0], (Option.some.inj hm).symm, rfl, k0, rfl⟩
    · replace hm := ite_F h9 hm
      refine twp_exit ?_
      refine way_thenExit ?_
      obtain ⟨v16, hm, hz⟩ := inr_inv hm
      rw [hz8 _ hz] at hm
      refine way_thenExit ?_
      refine way_here ?_
      refine way_then ?_
      exact ⟨_, [0], (Option.some.inj hm).symm, rfl, k0, rfl⟩
  · refine w_norm [3] rfl rfl ?_
    refine twp_rseq ?_
    iterate 2 (refine s_a tab_ok rfl ?_)
    refine tops_nil ?_
    refine w_norm [2] rfl rfl ?_
    refine twp_ret ?_
    obtain rfl := Option.some.inj hm
    exact ⟨_, [0], res rfl, by decide, k0, rfl, rfl⟩

theorem locks_routeFits_c {p0 : RouteState} {p1 : Int} {r : Bool} (hm : locks_routeFits p0 p1 = some r) : RetN Try.prog 57 [p0.enc, .int .i64 p1] (.bool (r)) := by
  refine .unit (ret_bodyS callB57 Try.func57 rfl Try.ntmps57 rfl rfl (fun wX gX => ?_)) rfl
  unfold locks_routeFits at hm
  refine w_norm [0, 1] rfl rfl ?_
  refine twp_rseq ?_
  refine s_bx 0 rfl rfl rfl ?_
  refine s_a tab_ok rfl ?_
  refine tops_nil ?_
  refine w_norm [1, 2] rfl rfl ?_
  refine twp_seq ?_
  refine twp_rseq ?_
  iterate 2 (refine s_a tab_ok rfl ?_)
  refine tops_nil ?_
  refine w_norm [1, 2, 6] rfl rfl ?_
  refine twp_block ?_
  refine w_joinM hm (fun x1 => ([(7, .d (.bool (x1)))] : Fr)) (fun x1 => ([] : List (Nat × Blk))) [7] [1, 2, 6] rfl (fun z2 hm => ?_) (fun x1 hm => ?_)
  · refine twp_rseq ?_
    iterate 2 (refine s_a tab_ok rfl ?_)
    refine tops_nil ?_
    refine w_norm [1, 2, 6, 7] rfl rfl ?_
    refine twp_cond _ rfl (fun h3 => ?_) (fun h3 => ?_)
    · replace hm := ite_T h3 hm
      refine twp_skip ?_
      refine way_then ?_
      exact ⟨_, [0], (Option.some.inj hm).symm, rfl, k0, rfl⟩
    · replace hm := ite_F h3 hm
      refine twp_rseq ?_
      iterate 2 (refine s_a tab_ok rfl ?_)
      refine tops_nil ?_
      refine w_norm [1, 2, 6, 7] rfl rfl ?_
      refine twp_cond _ rfl (fun h4 => ?_) (fun h4 => ?_)
      · replace hm := ite_T h4 hm
        refine twp_skip ?_
        refine way_then ?_
        exact ⟨_, [0], (Option.some.inj hm).symm, rfl, k0, rfl⟩
      · replace hm := ite_F h4 hm
        refine twp_region ?_
        iterate 2 (refine s_a tab_ok rfl ?_)
        refine tops_nil ?_
        refine way_then ?_
        exact ⟨_, [0], (Option.some.inj hm).symm, rfl, k0, rfl⟩
  · refine w_norm [1, 2, 6, 7] rfl rfl ?_
    refine twp_cond _ rfl (fun h5 => ?_) (fun h5 => ?_)
    · replace hm := iteB_T h5 hm
      refine w_cut [(4, .d (.bool (((decide (p0.rel = (0 : Int))) && (decide (p0.timer = (0 : Int)))))))] [4] [] rfl ?_ ?_
      · refine twp_region ?_
        iterate 3 (refine s_a tab_ok rfl ?_)
        refine s_b tab_ok rfl (fun q6 hq6 => ?_)
        cases q6
        · iterate 5 (refine s_a tab_ok rfl ?_)
          refine tops_nil ?_
          refine way_then ?_
          exact ⟨[0], rfl, k0, st_eq (fr_cons (av_bool (by simp [hq6])) rfl) rfl⟩
        · iterate 5 (refine s_a tab_ok rfl ?_)
          refine tops_nil ?_
          refine way_then ?_
          exact ⟨[0], rfl, k0, st_eq (fr_cons (av_bool (by simp [hq6])) rfl) rfl⟩
      · refine w_norm [4] rfl rfl ?_
        refine twp_ret ?_
        refine way_blockRet ?_
        refine way_thenRet ?_
        obtain rfl := Option.some.inj hm
        exact EndsS.one _ rfl (.d _) (.refl _)
    · replace hm := iteB_F h5 hm
      refine twp_rseq ?_
      iterate 2 (refine s_a tab_ok rfl ?_)
      refine tops_nil ?_
      refine w_norm [1, 2, 6, 19] rfl rfl ?_
      refine twp_cond _ rfl (fun h7 => ?_) (fun h7 => ?_)
      · replace hm := ite_T h7 hm
        refine twp_seq ?_
        refine w_cut [(29, .d (.bool (((decide (p0.rel < (0 : Int))) || (decide (p1 ≤ p0.rel))))))] [29] [1, 2] rfl ?_ ?_
        · refine twp_region ?_
          iterate 3 (refine s_a tab_ok rfl ?_)
          refine s_b tab_ok rfl (fun q8 hq8 => ?_)
          cases q8
          · iterate 5 (refine s_a tab_ok rfl ?_)
            refine tops_nil ?_
            refine way_then ?_
            exact ⟨[0], rfl, k0, st_eq (fr_cons (av_bool (by simp [hq8])) rfl) rfl⟩
          · iterate 5 (refine s_a tab_ok rfl ?_)
            refine tops_nil ?_
            refine way_then ?_
            exact ⟨[0], rfl, k0, st_eq (fr_cons (av_bool (by simp [hq8])) rfl) rfl⟩
        · refine w_norm [1, 2, 29] rfl rfl ?_
          refine twp_cond _ rfl (fun h9 => ?_) (fun h9 => ?_)
          · replace hm := iteB_T h9 hm
            refine twp_rseq ?_
            refine s_a tab_ok rfl ?_
            refine tops_nil ?_
            refine w_norm [4] rfl rfl ?_
            refine twp_ret ?_
            refine way_thenRet ?_
            refine way_blockRet ?_
            refine way_thenRet ?_
            obtain rfl := Option.some.inj hm
            exact EndsS.one _ rfl (.d _) (.refl _)
          · replace hm := iteB_F h9 hm
            refine twp_skip ?_
            refine way_then ?_
            refine w_norm [1, 2] rfl rfl ?_
            refine w_joinM hm (fun x10 => ([(4, .d (.bool (x10)))] : Fr)) (fun x10 => ([] : List (Nat × Blk))) [4] [] rfl (fun z11 hm => ?_) (fun x10 hm => ?_)
            · refine twp_region ?_
              iterate 3 (refine s_a tab_ok rfl ?_)
              refine s_b tab_ok rfl (fun q12 hq12 => ?_)
              cases q12
              · replace hm := ite_F hq12 hm
                iterate 3 (refine s_a tab_ok rfl ?_)
                obtain ⟨g13, hm⟩ := guard_inv hm
                refine s_x rfl rfl (x_ar rfl rfl rfl rfl g13) ?_
                refine s_a tab_ok rfl ?_
                refine s_b tab_ok rfl (fun q14 hq14 => ?_)
                cases q14
                · replace hm := ite_F hq14 hm
                  iterate 11 (refine s_a tab_ok rfl ?_)
                  refine tops_nil ?_
                  refine way_then ?_
                  exact ⟨_, [0], (Option.some.inj hm).symm, rfl, k0, rfl⟩
                · replace hm := ite_T hq14 hm
                  iterate 4 (refine s_a tab_ok rfl ?_)
                  refine s_b tab_ok rfl (fun q15 hq15 => ?_)
                  cases q15
                  · replace hm := ite_F hq15 hm
                    iterate 6 (refine s_a tab_ok rfl ?_)
                    refine tops_nil ?_
                    refine way_then ?_
                    exact ⟨_, [0], (Option.some.inj hm).symm, rfl, k0, rfl⟩
                  · replace hm := ite_T hq15 hm
                    iterate 6 (refine s_a tab_ok rfl ?_)
                    refine tops_nil ?_
                    refine way_then ?_
                    exact ⟨_, [0], (Option.some.inj hm).symm, rfl, k0, rfl⟩
              · replace hm := ite_T hq12 hm
                iterate 17 (refine s_a tab_ok rfl ?_)
                refine tops_nil ?_
                refine way_then ?_
                exact ⟨_, [0], (Option.some.inj hm).symm, rfl, k0, rfl⟩
            · refine w_norm [4] rfl rfl ?_
              refine twp_ret ?_
              refine way_blockRet ?_
              refine way_thenRet ?_
              obtain rfl := Option.some.inj hm
              exact EndsS.one _ rfl (.d _) (.refl _)
      · replace hm := ite_F h7 hm
        refine twp_rseq ?_
        iterate 2 (refine s_a tab_ok rfl ?_)
        refine tops_nil ?_
        refine w_norm [1, 2, 50] rfl rfl ?_
        refine twp_cond _ rfl (fun h16 => ?_) (fun h16 => ?_)
        · replace hm := ite_T h16 hm
          refine w_cut [(4, .d (.bool (((decide ((0 : Int) ≤ p0.rel)) && ((decide (p0.rel < p1)) && ((decide ((0 : Int) ≤ p0.timer)) && (decide (p0.timer < (12 : Int)))))))))] [4] [] rfl ?_ ?_
          · refine twp_region ?_
            iterate 3 (refine s_a tab_ok rfl ?_)
            refine s_b tab_ok rfl (fun q17 hq17 => ?_)
            cases q17
            · iterate 16 (refine s_a tab_ok rfl ?_)
              refine tops_nil ?_
              refine way_then ?_
              exact ⟨[0], rfl, k0, st_eq (fr_cons (av_bool (by simp [hq17])) rfl) rfl⟩
            · iterate 5 (refine s_a tab_ok rfl ?_)
              refine s_b tab_ok rfl (fun q18 hq18 => ?_)
              cases q18
              · iterate 10 (refine s_a tab_ok rfl ?_)
                refine tops_nil ?_
                refine way_then ?_
                exact ⟨[0], rfl, k0, st_eq (fr_cons (av_bool (by simp [hq17, hq18])) rfl) rfl⟩
              · iterate 4 (refine s_a tab_ok rfl ?_)
                refine s_b tab_ok rfl (fun q19 hq19 => ?_)
                cases q19
                · iterate 5 (refine s_a tab_ok rfl ?_)
                  refine tops_nil ?_
                  refine way_then ?_
                  exact ⟨[0], rfl, k0, st_eq (fr_cons (av_bool (by simp [hq17, hq18, hq19])) rfl) rfl⟩
                · iterate 5 (refine s_a tab_ok rfl ?_)
                  refine tops_nil ?_
                  refine way_then ?_
                  exact ⟨[0], rfl, k0, st_eq (fr_cons (av_bool (by simp [hq17, hq18, hq19])) rfl) rfl⟩
          · refine w_norm [4] rfl rfl ?_
            refine twp_ret ?_
            refine way_blockRet ?_
            refine way_thenRet ?_
            obtain rfl := Option.some.inj hm
            exact EndsS.one _ rfl (.d _) (.refl _)
        · replace hm := ite_F h16 hm
          refine twp_skip ?_
          refine way_block ?_
          refine way_then ?_
          refine w_norm [] rfl rfl ?_
          refine twp_rseq ?_
          refine s_a tab_ok rfl ?_
          refine tops_nil ?_
          refine w_norm [4] rfl rfl ?_
          refine twp_ret ?_
          obtain rfl := Option.some.inj hm
          exact EndsS.one _ rfl (.d _) (.refl _)

theorem locks_fits_c {p0 : Table} {p1 : Inter} {r : Bool} (hm : locks_fits p0 p1 = some r) : RetN Try.prog 33 [p0.enc, p1.enc] (.bool (r)) := by
  refine .unit (ret_bodyS callB33 Try.func33 rfl Try.ntmps33 rfl rfl (fun wX gX => ?_)) rfl
  unfold locks_fits at hm
  refine w_norm [0, 1] rfl rfl ?_
  refine twp_rseq ?_
  refine s_bx 0 rfl rfl rfl ?_
  refine s_bx 1 rfl rfl rfl ?_
  refine s_a tab_ok rfl ?_
  refine tops_nil ?_
  refine w_norm [2, 3] rfl rfl ?_
  refine twp_seq ?_
  refine w_joinM hm (fun x1 => ([(29, .d (.bool (x1)))] : Fr)) (fun x1 => ([] : List (Nat × Blk))) [29] [2, 3] rfl (fun z2 hm => ?_) (fun x1 hm => ?_)
  · refine twp_region ?_
    refine s_a tab_ok rfl ?_
    obtain ⟨r3, hr3, hm⟩ := bind_inv hm
    refine s_x rfl rfl (rd_callRN rfl rfl (snaps_cons (.d _) snaps_nil) (table_Check_c hr3)) ?_
    refine s_a tab_ok rfl ?_
    refine s_b tab_ok rfl (fun q4 hq4 => ?_)
    cases q4
    · replace hm := iteN_F hq4 hm
      iterate 2 (refine s_a tab_ok rfl ?_)
      refine s_x rfl rfl (x_len tab_ok rfl rfl rfl) ?_
      iterate 2 (refine s_a tab_ok rfl ?_)
      refine s_x rfl rfl (x_len tab_ok rfl rfl rfl) ?_
      iterate 2 (refine s_a tab_ok rfl ?_)
      refine s_b tab_ok rfl (fun q5 hq5 => ?_)
      cases q5
      · replace hm := iteN_F hq5 hm
        iterate 2 (refine s_a tab_ok rfl ?_)
        refine s_x rfl rfl (x_len tab_ok rfl rfl rfl) ?_
        iterate 2 (refine s_a tab_ok rfl ?_)
        refine s_x rfl rfl (x_len tab_ok rfl rfl rfl) ?_
        iterate 2 (refine s_a tab_ok rfl ?_)
        refine tops_nil ?_
        refine way_then ?_
        exact ⟨_, [0, 1], (Option.some.inj hm).symm, rfl, k0, rfl⟩
      · replace hm := iteN_T hq5 hm
        iterate 8 (refine s_a tab_ok rfl ?_)
        refine tops_nil ?_
        refine way_then ?_
        exact ⟨_, [0, 1], (Option.some.inj hm).symm, rfl, k0, rfl⟩
    · replace hm := iteN_T hq4 hm
      iterate 17 (refine s_a tab_ok rfl ?_)
      refine tops_nil ?_
      refine way_then ?_
      exact ⟨_, [0, 1], (Option.some.inj hm).symm, rfl, k0, rfl⟩
  · refine w_norm [2, 3, 29] rfl rfl ?_
    refine twp_cond _ rfl (fun h6 => ?_) (fun h6 => ?_)
    · replace hm := iteB_T h6 hm
      refine twp_rseq ?_
      refine s_a tab_ok rfl ?_
      refine tops_nil ?_
      refine w_norm [4] rfl rfl ?_
      refine twp_ret ?_
      refine way_thenRet ?_
      obtain rfl := Option.some.inj hm
      exact EndsS.one _ rfl (.d _) (.refl _)
    · replace hm := iteB_F h6 hm
      refine twp_skip ?_
      refine way_then ?_
      refine w_norm [2, 3] rfl rfl ?_
      refine w_joinS hm (fun _ => ([] : Fr)) (fun _ => ([] : List (Nat × Blk))) [] [3] rfl (fun z7 hm hz7 => ?_) (fun j hm => ?_)
      · refine twp_rseq ?_
        iterate 2 (refine s_a tab_ok rfl ?_)
        refine s_x rfl rfl (x_len tab_ok rfl rfl rfl) ?_
        refine s_a tab_ok rfl ?_
        refine tops_nil ?_
        refine w_norm [2, 3, 31, 32, 33] rfl rfl ?_
        refine twp_block ?_
        refine w_loop hm (fun x9 => ([(33, .d (.int .i64 x9))] : Fr)) (fun x9 => ([] : List (Nat × Blk))) [33] [2, 3, 31, 32] [0, 1] rfl k0 rfl rfl rfl rfl rfl (fun x9 z10 hm hz10 => ?_)
        refine w_norm [2, 3, 31, 32, 33] rfl rfl ?_
        refine twp_rseq ?_
        refine s_a tab_ok rfl ?_
        refine tops_nil ?_
        refine w_norm [2, 3, 31, 32, 33, 34] rfl rfl ?_
        refine twp_seq ?_
        refine twp_cond _ rfl (fun h11 => ?_) (fun h11 => ?_)
        · replace hm := ite_T h11 hm
          refine twp_skip ?_
          refine way_then ?_
          refine w_norm [2, 3, 31, 32, 33] rfl rfl ?_
          refine twp_seq ?_
          refine twp_block ?_
          refine twp_rseq ?_
          refine s_a tab_ok rfl ?_
          obtain ⟨e12, he12, hm⟩ := get_inv hm
          refine s_x rfl rfl (x_ix tab_ok rfl rfl rfl rfl he12) ?_
          refine s_a tab_ok rfl ?_
          refine s_al 2 rfl rfl zero70 rfl ?_
          iterate 2 (refine s_a tab_ok rfl ?_)
          refine tops_nil ?_
          refine w_norm [2, 3, 5, 6, 31, 32, 33] rfl rfl ?_
          refine twp_dseq follows  ?_
          iterate 4 (refine d_a [0, 1, 2] tab_ok rfl ?_)
          obtain ⟨e13, he13, hm⟩ := get_inv hm
          refine d_x [0, 1, 2] rfl rfl (x_ix tab_ok rfl rfl rfl rfl he13) ?_
          iterate 2 (refine d_a [0, 1, 2] tab_ok rfl ?_)
          refine d_x [0, 1, 2] rfl rfl (x_len tab_ok rfl rfl rfl) ?_
          obtain ⟨r14, hr14, hm⟩ := bind_inv hm
          refine d_x [0, 1, 2] rfl rfl (rd_callRN rfl rfl (snaps_cons (.d _) (snaps_cons (.d _) snaps_nil)) (locks_routeFits_c hr14)) ?_
          refine d_a [0, 1, 2] tab_ok rfl ?_
          refine d_tail ?_ (by kernel_rfl)
          refine tops_nil ?_
          refine w_norm [2, 3, 31, 32, 33, 47] rfl rfl ?_
          refine twp_cond _ rfl (fun h15 => ?_) (fun h15 => ?_)
          · replace hm := iteB_T h15 hm
            refine twp_rseq ?_
            refine s_a tab_ok rfl ?_
            refine tops_nil ?_
            refine w_norm [4] rfl rfl ?_
            refine twp_ret ?_
            refine way_blockRet ?_
            refine way_thenRet ?_
            obtain ⟨v16, hm, hz⟩ := inr_inv hm
            rw [hz10 _ hz] at hm
            refine way_thenRet ?_
            refine way_blockRet ?_
            obtain ⟨v17, hm, hz⟩ := inr_inv hm
            rw [hz7 _ hz] at hm
            refine way_thenRet ?_
            obtain rfl := Option.some.inj hm
            exact EndsS.one _ rfl (.d _) (.refl _)
          · replace hm := iteB_F h15 hm
            refine twp_skip ?_
            refine way_block ?_
            refine way_then ?_
            refine w_norm [2, 3, 31, 32, 33] rfl rfl ?_
            refine twp_region ?_
            obtain ⟨g18, hm⟩ := guard_inv hm
            refine s_x rfl rfl (x_ar rfl rfl rfl rfl g18) ?_
            refine s_a tab_ok rfl ?_
            refine tops_nil ?_
            refine way_then ?_
            exact ⟨_, [0, 1], (Option.some.inj hm).symm, rfl, k0, rfl⟩
        · replace hm := ite_F h11 hm
          refine twp_exit ?_
          refine way_thenExit ?_
          obtain ⟨v19, hm, hz⟩ := inr_inv hm
          rw [hz10 _ hz] at hm
          refine way_thenExit ?_
          refine way_here ?_
          refine way_then ?_
          exact ⟨_, [0, 1], (Option.some.inj hm).symm, rfl, k0, rfl⟩
      · refine w_norm [3] rfl rfl ?_
        refine w_joinS hm (fun _ => ([] : Fr)) (fun _ => ([] : List (Nat × Blk))) [] [] rfl (fun z20 hm hz20 => ?_) (fun j hm => ?_)
        · refine twp_rseq ?_
          iterate 2 (refine s_a tab_ok rfl ?_)
          refine s_x rfl rfl (x_len tab_ok rfl rfl rfl) ?_
          refine s_a tab_ok rfl ?_
          refine tops_nil ?_
          refine w_norm [50, 51, 52] rfl rfl ?_
          refine twp_block ?_
          refine w_loop hm (fun x22 => ([(52, .d (.int .i64 x22))] : Fr)) (fun x22 => ([] : List (Nat × Blk))) [52] [50, 51] [0, 1] rfl k0 rfl rfl rfl rfl rfl (fun x22 z23 hm hz23 => ?_)
          refine w_norm [50, 51, 52] rfl rfl ?_
          refine twp_rseq ?_
          refine s_a tab_ok rfl ?_
          refine tops_nil ?_
          refine w_norm [50, 51, 52, 53] rfl rfl ?_
          refine twp_seq ?_
          refine twp_cond _ rfl (fun h24 => ?_) (fun h24 => ?_)
          · replace hm := ite_T h24 hm
            refine twp_skip ?_
            refine way_then ?_
            refine w_norm [50, 51, 52] rfl rfl ?_
            refine twp_seq ?_
            refine twp_block ?_
            refine twp_rseq ?_
            obtain ⟨e25, he25, hm⟩ := get_inv hm
            refine s_x rfl rfl (x_ix tab_ok rfl rfl rfl rfl he25) ?_
            iterate 2 (refine s_a tab_ok rfl ?_)
            refine tops_nil ?_
            refine w_norm [8, 50, 51, 52] rfl rfl ?_
            refine w_cut [(61, .d (.bool (((!(decide (e25 = (1 : Int)))) && (!(decide (e25 = (2 : Int))))))))] [61] [50, 51, 52] rfl ?_ ?_
            · refine twp_region ?_
              iterate 2 (refine s_a tab_ok rfl ?_)
              refine s_b tab_ok rfl (fun q26 hq26 => ?_)
              cases q26
              · iterate 3 (refine s_a tab_ok rfl ?_)
                refine tops_nil ?_
                refine way_then ?_
                exact ⟨[0, 1], rfl, k0, st_eq (fr_cons (av_bool (by simp [hq26])) rfl) rfl⟩
              · iterate 3 (refine s_a tab_ok rfl ?_)
                refine tops_nil ?_
                refine way_then ?_
                exact ⟨[0, 1], rfl, k0, st_eq (fr_cons (av_bool (by simp [hq26])) rfl) rfl⟩
            · refine w_norm [50, 51, 52, 61] rfl rfl ?_
              refine twp_cond _ rfl (fun h27 => ?_) (fun h27 => ?_)
              · replace hm := iteB_T h27 hm
                refine twp_rseq ?_
                refine s_a tab_ok rfl ?_
                refine tops_nil ?_
                refine w_norm [4] rfl rfl ?_
                refine twp_ret ?_
                refine way_blockRet ?_
                refine way_thenRet ?_
                obtain ⟨v28, hm, hz⟩ := inr_inv hm
                rw [hz23 _ hz] at hm
                refine way_thenRet ?_
                refine way_blockRet ?_
                obtain ⟨v29, hm, hz⟩ := inr_inv hm
                rw [hz20 _ hz] at hm
                refine way_thenRet ?_
                obtain rfl := Option.some.inj hm
                exact EndsS.one _ rfl (.d _) (.refl _)
              · replace hm := iteB_F h27 hm
                refine twp_skip ?_
                refine way_block ?_
                refine way_then ?_
                refine w_norm [50, 51, 52] rfl rfl ?_
                refine twp_region ?_
                obtain ⟨g30, hm⟩ := guard_inv hm
                refine s_x rfl rfl (x_ar rfl rfl rfl rfl g30) ?_
                refine s_a tab_ok rfl ?_
                refine tops_nil ?_
                refine way_then ?_
                exact ⟨_, [0, 1], (Option.some.inj hm).symm, rfl, k0, rfl⟩
          · replace hm := ite_F h24 hm
            refine twp_exit ?_
            refine way_thenExit ?_
            obtain ⟨v31, hm, hz⟩ := inr_inv hm
            rw [hz23 _ hz] at hm
            refine way_thenExit ?_
            refine way_here ?_
            refine way_then ?_
            exact ⟨_, [0, 1], (Option.some.inj hm).symm, rfl, k0, rfl⟩
        · refine w_norm [] rfl rfl ?_
          refine twp_rseq ?_
          refine s_a tab_ok rfl ?_
          refine tops_nil ?_
          refine w_norm [4] rfl rfl ?_
          refine twp_ret ?_
          obtain rfl := Option.some.inj hm
          exact EndsS.one _ rfl (.d _) (.refl _)

theorem slices_Clone_int_c {p0 : (List Int)} {r : (List Int)} (hm : slices_Clone_int p0 = some r) : RetD Try.prog 58 [.sl 1 (p0.map (D.int .i64))] (.sl 1 (r.map (D.int .i64))) := by
  refine .of (mv := fun _ => false) (ret_bodyS callB58 Try.func58 rfl Try.ntmps58 rfl rfl (fun wX gX => ?_))
  unfold slices_Clone_int at hm
  refine w_norm [0] rfl rfl ?_
  refine twp_rseq ?_
  refine s_a tab_ok rfl ?_
  refine tops_nil ?_
  refine w_norm [0] rfl rfl ?_
  refine twp_seq ?_
  refine twp_rseq ?_
  refine s_a tab_ok rfl ?_
  refine s_eqNil rfl Try.underlying23 rfl rfl (fun b1 hb1 => ?_)
  refine tops_nil ?_
  refine w_norm [0, 4] rfl rfl ?_
  refine twp_cond _ rfl (fun h2 => ?_) (fun h2 => ?_)
  · obtain ⟨hnb1, hm⟩ := nil_T (hb1 h2) hm
    subst hnb1
    refine twp_rseq ?_
    refine s_a tab_ok rfl ?_
    refine tops_nil ?_
    refine c_wk 2 [some 1] rfl ?_
    refine w_norm [2] rfl rfl ?_
    refine twp_ret ?_
    refine way_thenRet ?_
    obtain rfl := Option.some.inj hm
    exact EndsS.one _ rfl (.d _) (.refl _)
  · replace hm := nil_F hm
    refine twp_skip ?_
    refine way_then ?_
    refine w_norm [0] rfl rfl ?_
    refine twp_rseq ?_
    refine s_litO (f := (D.int .i64)) 0 [] ([] : List Int) tab_ok rfl rfl rfl zero3 rfl rfl rfl rfl rfl ?_
    refine s_a tab_ok rfl ?_
    obtain ⟨g3, hm⟩ := guard_inv hm
    refine s_app (f := (D.int .i64)) p0 tab_ok rfl rfl zero3 rfl rfl rfl rfl rfl (fun h => absurd h (Nat.not_lt_zero _)) rfl src_d g3 rfl rfl ?_
    refine s_a tab_ok rfl ?_
    refine tops_nil ?_
    refine w_norm [2] rfl rfl ?_
    refine twp_ret ?_
    obtain rfl := Option.some.inj hm
    exact EndsS.one _ rfl (snap_map rfl) (.refl _)

theorem locks_path_c {p0 : Route} {p1 : RouteState} {r : (List Int)} (hm : locks_path p0 p1 = some r) : RetD Try.prog 34 [p0.enc, p1.enc] (.sl 1 (r.map (D.int .i64))) := by
  refine .of (mv := fun _ => false) (ret_bodyS callB34 Try.func34 rfl Try.ntmps34 rfl rfl (fun wX gX => ?_))
  unfold locks_path at hm
  refine w_norm [0, 1] rfl rfl ?_
  refine twp_rseq ?_
  refine s_bx 0 rfl rfl rfl ?_
  refine s_bx 1 rfl rfl rfl ?_
  refine s_a tab_ok rfl ?_
  refine tops_nil ?_
  refine w_norm [2, 3] rfl rfl ?_
  refine twp_seq ?_
  refine twp_rseq ?_
  iterate 3 (refine s_a tab_ok rfl ?_)
  refine tops_nil ?_
  refine w_norm [2, 3, 7] rfl rfl ?_
  refine twp_cond _ rfl (fun h1 => ?_) (fun h1 => ?_)
  · replace hm := ite_T h1 hm
    refine twp_rseq ?_
    refine s_a tab_ok rfl ?_
    refine tops_nil ?_
    refine c_wk 4 [some 1] rfl ?_
    refine w_norm [4] rfl rfl ?_
    refine twp_ret ?_
    refine way_thenRet ?_
    obtain rfl := Option.some.inj hm
    exact EndsS.one _ rfl (.d _) (.refl _)
  · replace hm := ite_F h1 hm
    refine twp_skip ?_
    refine way_then ?_
    refine w_norm [2, 3] rfl rfl ?_
    refine twp_rseq ?_
    iterate 4 (refine s_a tab_ok rfl ?_)
    obtain ⟨g2, hm⟩ := guard_inv hm
    refine s_x rfl rfl (x_cut tab_ok rfl rfl rfl rfl rfl g2) ?_
    obtain ⟨r3, hr3, hm⟩ := bind_inv hm
    refine s_x rfl rfl (rd_callRD rfl rfl rfl (slices_Clone_int_c hr3)) ?_
    refine s_a tab_ok rfl ?_
    refine tops_nil ?_
    refine w_norm [4] rfl rfl ?_
    refine twp_ret ?_
    obtain rfl := Option.some.inj hm
    exact EndsS.one _ rfl (.d _) (.refl _)

theorem locks_Path_c {p0 : Table} {p1 : Inter} {p2 : Int} {r : (List Int)} (hm : locks_Path p0 p1 p2 = some r) : RetD Try.prog 19 [p0.enc, p1.enc, .int .i64 p2] (.sl 1 (r.map (D.int .i64))) := by
  refine .of (mv := fun _ => false) (ret_bodyS callB19 Try.func19 rfl Try.ntmps19 rfl rfl (fun wX gX => ?_))
  unfold locks_Path at hm
  refine w_norm [0, 1, 2] rfl rfl ?_
  refine twp_rseq ?_
  refine s_bx 0 rfl rfl rfl ?_
  refine s_bx 1 rfl rfl rfl ?_
  refine s_a tab_ok rfl ?_
  refine tops_nil ?_
  refine w_norm [2, 3, 4] rfl rfl ?_
  refine twp_seq ?_
  refine w_joinM hm (fun x1 => ([(21, .d (.bool (x1)))] : Fr)) (fun x1 => ([] : List (Nat × Blk))) [21] [2, 3, 4] rfl (fun z2 hm => ?_) (fun x1 hm => ?_)
  · refine twp_region ?_
    iterate 2 (refine s_a tab_ok rfl ?_)
    refine s_b tab_ok rfl (fun q3 hq3 => ?_)
    cases q3
    · replace hm := ite_F hq3 hm
      iterate 3 (refine s_a tab_ok rfl ?_)
      refine s_x rfl rfl (x_len tab_ok rfl rfl rfl) ?_
      iterate 2 (refine s_a tab_ok rfl ?_)
      refine s_b tab_ok rfl (fun q4 hq4 => ?_)
      cases q4
      · replace hm := ite_F hq4 hm
        iterate 2 (refine s_a tab_ok rfl ?_)
        obtain ⟨r5, hr5, hm⟩ := bind_inv hm
        refine s_x rfl rfl (rd_callRN rfl rfl (snaps_cons (.d _) (snaps_cons (.d _) snaps_nil)) (locks_fits_c hr5)) ?_
        iterate 2 (refine s_a tab_ok rfl ?_)
        refine tops_nil ?_
        refine way_then ?_
        exact ⟨_, [0, 1], (Option.some.inj hm).symm, rfl, k0, rfl⟩
      · replace hm := ite_T hq4 hm
        iterate 5 (refine s_a tab_ok rfl ?_)
        refine tops_nil ?_
        refine way_then ?_
        exact ⟨_, [0, 1], (Option.some.inj hm).symm, rfl, k0, rfl⟩
    · replace hm := ite_T hq3 hm
      iterate 12 (refine s_a tab_ok rfl ?_)
      refine tops_nil ?_
      refine way_then ?_
      exact ⟨_, [0, 1], (Option.some.inj hm).symm, rfl, k0, rfl⟩
  · refine w_norm [2, 3, 4, 21] rfl rfl ?_
    refine twp_cond _ rfl (fun h6 => ?_) (fun h6 => ?_)
    · replace hm := iteB_T h6 hm
      refine twp_rseq ?_
      refine s_a tab_ok rfl ?_
      refine tops_nil ?_
      refine c_wk 6 [some 1] rfl ?_
      refine w_norm [6] rfl rfl ?_
      refine twp_ret ?_
      refine way_thenRet ?_
      obtain rfl := Option.some.inj hm
      exact EndsS.one _ rfl (.d _) (.refl _)
    · replace hm := iteB_F h6 hm
      refine twp_skip ?_
      refine way_then ?_
      refine w_norm [2, 3, 4] rfl rfl ?_
      refine twp_dseq follows  ?_
      iterate 3 (refine d_a [0, 1] tab_ok rfl ?_)
      obtain ⟨e7, he7, hm⟩ := get_inv hm
      refine d_x [0, 1] rfl rfl (x_ix tab_ok rfl rfl rfl rfl he7) ?_
      iterate 4 (refine d_a [0, 1] tab_ok rfl ?_)
      obtain ⟨e8, he8, hm⟩ := get_inv hm
      refine d_x [0, 1] rfl rfl (x_ix tab_ok rfl rfl rfl rfl he8) ?_
      refine d_a [0, 1] tab_ok rfl ?_
      obtain ⟨r9, hr9, hm⟩ := bind_inv hm
      refine d_x [0, 1] rfl rfl (rd_callRD rfl rfl rfl (locks_path_c hr9)) ?_
      refine d_tail ?_ (by kernel_rfl)
      refine s_a tab_ok rfl ?_
      refine tops_nil ?_
      refine w_norm [6] rfl rfl ?_
      refine twp_ret ?_
      obtain rfl := Option.some.inj hm
      exact EndsS.one _ rfl (.d _) (.refl _)

theorem slices_Contains_int_c {p0 : (List Int)} {p1 : Int} {r : Bool} (hm : slices_Contains_int p0 p1 = some r) : RetN Try.prog 52 [.sl 1 (p0.map (D.int .i64)), .int .i64 p1] (.bool (r)) := by
  refine .unit (ret_bodyS callB52 Try.func52 rfl Try.ntmps52 rfl rfl (fun wX gX => ?_)) rfl
  unfold slices_Contains_int at hm
  refine w_norm [0, 1] rfl rfl ?_
  refine twp_rseq ?_
  refine s_a tab_ok rfl ?_
  refine tops_nil ?_
  refine w_norm [0, 1] rfl rfl ?_
  refine twp_rseq ?_
  iterate 2 (refine s_a tab_ok rfl ?_)
  obtain ⟨r1, hr1, hm⟩ := bind_inv hm
  refine s_x rfl rfl (rd_callRN rfl rfl (snaps_cons (.d _) (snaps_cons (.d _) snaps_nil)) (slices_Index_int_c hr1)) ?_
  iterate 2 (refine s_a tab_ok rfl ?_)
  refine tops_nil ?_
  refine w_norm [4] rfl rfl ?_
  refine twp_ret ?_
  obtain rfl := Option.some.inj hm
  exact EndsS.one _ rfl (.d _) (.refl _)

theorem locks_over_c {p0 : Route} {p1 : RouteState} {r : (List Int)} (hm : locks_over p0 p1 = some r) : RetD Try.prog 35 [p0.enc, p1.enc] (.sl 1 (r.map (D.int .i64))) := by
  refine .of (mv := fun _ => false) (ret_bodyS callB35 Try.func35 rfl Try.ntmps35 rfl rfl (fun wX gX => ?_))
  unfold locks_over at hm
  refine w_norm [0, 1] rfl rfl ?_
  refine twp_rseq ?_
  refine s_bx 0 rfl rfl rfl ?_
  refine s_bx 1 rfl rfl rfl ?_
  refine s_a tab_ok rfl ?_
  refine tops_nil ?_
  refine w_norm [2, 3] rfl rfl ?_
  refine twp_seq ?_
  refine twp_rseq ?_
  iterate 3 (refine s_a tab_ok rfl ?_)
  refine tops_nil ?_
  refine w_norm [2, 7] rfl rfl ?_
  refine twp_cond _ rfl (fun h1 => ?_) (fun h1 => ?_)
  · replace hm := ite_T h1 hm
    refine twp_rseq ?_
    refine s_a tab_ok rfl ?_
    refine tops_nil ?_
    refine c_wk 4 [some 1] rfl ?_
    refine w_norm [4] rfl rfl ?_
    refine twp_ret ?_
    refine way_thenRet ?_
    obtain rfl := Option.some.inj hm
    exact EndsS.one _ rfl (.d _) (.refl _)
  · replace hm := ite_F h1 hm
    refine twp_skip ?_
    refine way_then ?_
    refine w_norm [2] rfl rfl ?_
    refine twp_rseq ?_
    iterate 2 (refine s_a tab_ok rfl ?_)
    obtain ⟨r2, hr2, hm⟩ := bind_inv hm
    refine s_x rfl rfl (rd_callRD rfl rfl rfl (slices_Clone_int_c hr2)) ?_
    refine s_a tab_ok rfl ?_
    refine tops_nil ?_
    refine w_norm [4] rfl rfl ?_
    refine twp_ret ?_
    obtain rfl := Option.some.inj hm
    exact EndsS.one _ rfl (.d _) (.refl _)

theorem locks_Over_c {p0 : Table} {p1 : Inter} {p2 : Int} {r : (List Int)} (hm : locks_Over p0 p1 p2 = some r) : RetD Try.prog 20 [p0.enc, p1.enc, .int .i64 p2] (.sl 1 (r.map (D.int .i64))) := by
  refine .of (mv := fun _ => false) (ret_bodyS callB20 Try.func20 rfl Try.ntmps20 rfl rfl (fun wX gX => ?_))
  unfold locks_Over at hm
  refine w_norm [0, 1, 2] rfl rfl ?_
  refine twp_rseq ?_
  refine s_bx 0 rfl rfl rfl ?_
  refine s_bx 1 rfl rfl rfl ?_
  refine s_a tab_ok rfl ?_
  refine tops_nil ?_
  refine w_norm [2, 3, 4] rfl rfl ?_
  refine twp_seq ?_
  refine w_joinM hm (fun x1 => ([(21, .d (.bool (x1)))] : Fr)) (fun x1 => ([] : List (Nat × Blk))) [21] [2, 3, 4] rfl (fun z2 hm => ?_) (fun x1 hm => ?_)
  · refine twp_region ?_
    iterate 2 (refine s_a tab_ok rfl ?_)
    refine s_b tab_ok rfl (fun q3 hq3 => ?_)
    cases q3
    · replace hm := ite_F hq3 hm
      iterate 3 (refine s_a tab_ok rfl ?_)
      refine s_x rfl rfl (x_len tab_ok rfl rfl rfl) ?_
      iterate 2 (refine s_a tab_ok rfl ?_)
      refine s_b tab_ok rfl (fun q4 hq4 => ?_)
      cases q4
      · replace hm := ite_F hq4 hm
        iterate 2 (refine s_a tab_ok rfl ?_)
        obtain ⟨r5, hr5, hm⟩ := bind_inv hm
        refine s_x rfl rfl (rd_callRN rfl rfl (snaps_cons (.d _) (snaps_cons (.d _) snaps_nil)) (locks_fits_c hr5)) ?_
        iterate 2 (refine s_a tab_ok rfl ?_)
        refine tops_nil ?_
        refine way_then ?_
        exact ⟨_, [0, 1], (Option.some.inj hm).symm, rfl, k0, rfl⟩
      · replace hm := ite_T hq4 hm
        iterate 5 (refine s_a tab_ok rfl ?_)
        refine tops_nil ?_
        refine way_then ?_
        exact ⟨_, [0, 1], (Option.some.inj hm).symm, rfl, k0, rfl⟩
    · replace hm := ite_T hq3 hm
      iterate 12 (refine s_a tab_ok rfl ?_)
      refine tops_nil ?_
      refine way_then ?_
      exact ⟨_, [0, 1], (Option.some.inj hm).symm, rfl, k0, rfl⟩
  · refine w_norm [2, 3, 4, 21] rfl rfl ?_
    refine twp_cond _ rfl (fun h6 => ?_) (fun h6 => ?_)
    · replace hm := iteB_T h6 hm
      refine twp_rseq ?_
      refine s_a tab_ok rfl ?_
      refine tops_nil ?_
      refine c_wk 6 [some 1] rfl ?_
      refine w_norm [6] rfl rfl ?_
      refine twp_ret ?_
      refine way_thenRet ?_
      obtain rfl := Option.some.inj hm
      exact EndsS.one _ rfl (.d _) (.refl _)
    · replace hm := iteB_F h6 hm
      refine twp_skip ?_
      refine way_then ?_
      refine w_norm [2, 3, 4] rfl rfl ?_
      refine twp_dseq follows  ?_
      iterate 3 (refine d_a [0, 1] tab_ok rfl ?_)
      obtain ⟨e7, he7, hm⟩ := get_inv hm
      refine d_x [0, 1] rfl rfl (x_ix tab_ok rfl rfl rfl rfl he7) ?_
      iterate 4 (refine d_a [0, 1] tab_ok rfl ?_)
      obtain ⟨e8, he8, hm⟩ := get_inv hm
      refine d_x [0, 1] rfl rfl (x_ix tab_ok rfl rfl rfl rfl he8) ?_
      refine d_a [0, 1] tab_ok rfl ?_
      obtain ⟨r9, hr9, hm⟩ := bind_inv hm
      refine d_x [0, 1] rfl rfl (rd_callRD rfl rfl rfl (locks_over_c hr9)) ?_
      refine d_tail ?_ (by kernel_rfl)
      refine s_a tab_ok rfl ?_
      refine tops_nil ?_
      refine w_norm [6] rfl rfl ?_
      refine twp_ret ?_
      obtain rfl := Option.some.inj hm
      exact EndsS.one _ rfl (.d _) (.refl _)

theorem possession_locked_c {p0 : Table} {p1 : Inter} {p2 : Int} {r : Bool} (hm : possession_locked p0 p1 p2 = some r) : RetN Try.prog 27 [p0.enc, p1.enc, .int .i64 p2] (.bool (r)) := by
  refine .unit (ret_bodyS callB27 Try.func27 rfl Try.ntmps27 rfl rfl (fun wX gX => ?_)) rfl
  unfold possession_locked at hm
  refine w_norm [0, 1, 2] rfl rfl ?_
  refine twp_rseq ?_
  refine s_bx 0 rfl rfl rfl ?_
  refine s_bx 1 rfl rfl rfl ?_
  refine s_a tab_ok rfl ?_
  refine tops_nil ?_
  refine w_norm [2, 3, 4] rfl rfl ?_
  refine w_joinS hm (fun _ => ([] : Fr)) (fun _ => ([] : List (Nat × Blk))) [] [] rfl (fun z1 hm hz1 => ?_) (fun j hm => ?_)
  · refine twp_rseq ?_
    iterate 2 (refine s_a tab_ok rfl ?_)
    refine s_x rfl rfl (x_len tab_ok rfl rfl rfl) ?_
    refine s_a tab_ok rfl ?_
    refine tops_nil ?_
    refine w_norm [2, 3, 4, 10, 11] rfl rfl ?_
    refine twp_block ?_
    refine w_loop hm (fun x3 => ([(11, .d (.int .i64 x3))] : Fr)) (fun x3 => ([] : List (Nat × Blk))) [11] [2, 3, 4, 10] [0, 1] rfl k0 rfl rfl rfl rfl rfl (fun x3 z4 hm hz4 => ?_)
    refine w_norm [2, 3, 4, 10, 11] rfl rfl ?_
    refine twp_rseq ?_
    refine s_a tab_ok rfl ?_
    refine tops_nil ?_
    refine w_norm [2, 3, 4, 10, 11, 12] rfl rfl ?_
    refine twp_seq ?_
    refine twp_cond _ rfl (fun h5 => ?_) (fun h5 => ?_)
    · replace hm := ite_T h5 hm
      refine twp_skip ?_
      refine way_then ?_
      refine w_norm [2, 3, 4, 10, 11] rfl rfl ?_
      refine twp_seq ?_
      refine twp_block ?_
      refine twp_rseq ?_
      iterate 2 (refine s_a tab_ok rfl ?_)
      refine tops_nil ?_
      refine w_norm [2, 3, 4, 7, 10, 11] rfl rfl ?_
      refine w_joinM hm (fun x6 => ([(27, .d (.bool (x6)))] : Fr)) (fun x6 => ([] : List (Nat × Blk))) [27] [2, 3, 4, 10, 11] rfl (fun z7 hm => ?_) (fun x6 hm => ?_)
      · refine twp_region ?_
        iterate 3 (refine s_a tab_ok rfl ?_)
        obtain ⟨r8, hr8, hm⟩ := bind_inv hm
        refine s_x rfl rfl (rd_callRD rfl rfl rfl (locks_Path_c hr8)) ?_
        refine s_a tab_ok rfl ?_
        obtain ⟨r9, hr9, hm⟩ := bind_inv hm
        refine s_x rfl rfl (rd_callRN rfl rfl (snaps_cons (.d _) (snaps_cons (.d _) snaps_nil)) (slices_Contains_int_c hr9)) ?_
        refine s_b tab_ok rfl (fun q10 hq10 => ?_)
        cases q10
        · replace hm := iteB_F hq10 hm
          iterate 3 (refine s_a tab_ok rfl ?_)
          obtain ⟨r11, hr11, hm⟩ := bind_inv hm
          refine s_x rfl rfl (rd_callRD rfl rfl rfl (locks_Over_c hr11)) ?_
          refine s_a tab_ok rfl ?_
          obtain ⟨r12, hr12, hm⟩ := bind_inv hm
          refine s_x rfl rfl (rd_callRN rfl rfl (snaps_cons (.d _) (snaps_cons (.d _) snaps_nil)) (slices_Contains_int_c hr12)) ?_
          refine s_a tab_ok rfl ?_
          refine tops_nil ?_
          refine way_then ?_
          exact ⟨_, [0, 1], (Option.some.inj hm).symm, rfl, k0, rfl⟩
        · replace hm := iteB_T hq10 hm
          iterate 7 (refine s_a tab_ok rfl ?_)
          refine tops_nil ?_
          refine way_then ?_
          exact ⟨_, [0, 1], (Option.some.inj hm).symm, rfl, k0, rfl⟩
      · refine w_norm [2, 3, 4, 10, 11, 27] rfl rfl ?_
        refine twp_cond _ rfl (fun h13 => ?_) (fun h13 => ?_)
        · replace hm := iteB_T h13 hm
          refine twp_rseq ?_
          refine s_a tab_ok rfl ?_
          refine tops_nil ?_
          refine w_norm [6] rfl rfl ?_
          refine twp_ret ?_
          refine way_blockRet ?_
          refine way_thenRet ?_
          obtain ⟨v14, hm, hz⟩ := inr_inv hm
          rw [hz4 _ hz] at hm
          refine way_thenRet ?_
          refine way_blockRet ?_
          obtain ⟨v15, hm, hz⟩ := inr_inv hm
          rw [hz1 _ hz] at hm
          refine way_thenRet ?_
          obtain rfl := Option.some.inj hm
          exact EndsS.one _ rfl (.d _) (.refl _)
        · replace hm := iteB_F h13 hm
          refine twp_skip ?_
          refine way_block ?_
          refine way_then ?_
          refine w_norm [2, 3, 4, 10, 11] rfl rfl ?_
          refine twp_region ?_
          obtain ⟨g16, hm⟩ := guard_inv hm
          refine s_x rfl rfl (x_ar rfl rfl rfl rfl g16) ?_
          refine s_a tab_ok rfl ?_
          refine tops_nil ?_
          refine way_then ?_
          exact ⟨_, [0, 1], (Option.some.inj hm).symm, rfl, k0, rfl⟩
    · replace hm := ite_F h5 hm
      refine twp_exit ?_
      refine way_thenExit ?_
      obtain ⟨v17, hm, hz⟩ := inr_inv hm
      rw [hz4 _ hz] at hm
      refine way_thenExit ?_
      refine way_here ?_
      refine way_then ?_
      exact ⟨_, [0, 1], (Option.some.inj hm).symm, rfl, k0, rfl⟩
  · refine w_norm [] rfl rfl ?_
    refine twp_rseq ?_
    refine s_a tab_ok rfl ?_
    refine tops_nil ?_
    refine w_norm [6] rfl rfl ?_
    refine twp_ret ?_
    obtain rfl := Option.some.inj hm
    exact EndsS.one _ rfl (.d _) (.refl _)

theorem possession_Take_c1_c {p0 : Possession} {p1 : Possession} {r : Bool} (hm : possession_Take_c1 p0 p1 = some r) : RetN Try.prog 29 [p0.enc, .ptr (p1.enc) 0] (.bool (r)) := by
  refine .unit (ret_bodyS callB29 Try.func29 rfl Try.ntmps29 rfl rfl (fun wX gX => ?_)) rfl
  unfold possession_Take_c1 at hm
  refine w_norm [0, 1] rfl rfl ?_
  refine twp_rseq ?_
  refine s_bx 0 rfl rfl rfl ?_
  refine s_a tab_ok rfl ?_
  refine tops_nil ?_
  refine w_norm [1, 2] rfl rfl ?_
  refine twp_rseq ?_
  iterate 6 (refine s_a tab_ok rfl ?_)
  refine tops_nil ?_
  refine w_norm [3] rfl rfl ?_
  refine twp_ret ?_
  obtain rfl := Option.some.inj hm
  exact EndsS.one _ rfl (.d _) (.refl _)

theorem slices_IndexFunc_Possession_c {p0 : (List Possession)} {p1 : Possession → Option Bool} {c1 : D} (hf1 : ∀ a0 r, p1 a0 = some r → ∃ F cs, fnOf c1 = some (F, cs) ∧ RetD Try.prog F ([a0.enc] ++ cs) (.bool (r))) {r : Int} (hm : slices_IndexFunc_Possession p0 p1 = some r) : RetN Try.prog 28 [.sl 4 (p0.map Possession.enc), c1] (.int .i64 r) := by
  refine .unit (ret_bodyS callB28 Try.func28 rfl Try.ntmps28 rfl rfl (fun wX gX => ?_)) rfl
  unfold slices_IndexFunc_Possession at hm
  refine w_norm [0, 1] rfl rfl ?_
  refine twp_rseq ?_
  refine s_a tab_ok rfl ?_
  refine tops_nil ?_
  refine w_norm [0, 1] rfl rfl ?_
  refine w_joinS hm (fun _ => ([] : Fr)) (fun _ => ([] : List (Nat × Blk))) [] [] rfl (fun z1 hm hz1 => ?_) (fun j hm => ?_)
  · refine twp_rseq ?_
    refine s_a tab_ok rfl ?_
    refine s_x rfl rfl (x_len tab_ok rfl rfl rfl) ?_
    refine s_a tab_ok rfl ?_
    refine tops_nil ?_
    refine w_norm [0, 1, 7, 8] rfl rfl ?_
    refine twp_block ?_
    refine w_loop hm (fun x3 => ([(8, .d (.int .i64 x3))] : Fr)) (fun x3 => ([] : List (Nat × Blk))) [8] [0, 1, 7] [] rfl k0 rfl rfl rfl rfl rfl (fun x3 z4 hm hz4 => ?_)
    refine w_norm [0, 1, 7, 8] rfl rfl ?_
    refine twp_rseq ?_
    refine s_a tab_ok rfl ?_
    refine tops_nil ?_
    refine w_norm [0, 1, 7, 8, 9] rfl rfl ?_
    refine twp_seq ?_
    refine twp_cond _ rfl (fun h5 => ?_) (fun h5 => ?_)
    · replace hm := ite_T h5 hm
      refine twp_skip ?_
      refine way_then ?_
      refine w_norm [0, 1, 7, 8] rfl rfl ?_
      refine twp_seq ?_
      refine twp_block ?_
      refine twp_rseq ?_
      iterate 2 (refine s_a tab_ok rfl ?_)
      refine tops_nil ?_
      refine w_norm [0, 1, 5, 7, 8] rfl rfl ?_
      refine twp_rseq ?_
      iterate 3 (refine s_a tab_ok rfl ?_)
      obtain ⟨e6, he6, hm⟩ := get_inv hm
      refine s_x rfl rfl (x_ix tab_ok rfl rfl rfl rfl he6) ?_
      refine s_a tab_ok rfl ?_
      obtain ⟨r7, hr7, hm⟩ := bind_inv hm
      obtain ⟨Fr7, csr7, hFr7, hcr7⟩ := hf1 _ _ hr7
      refine s_x rfl rfl (rd_callC rfl rfl hFr7 rfl hcr7) ?_
      refine tops_nil ?_
      refine w_norm [0, 1, 5, 7, 8, 16] rfl rfl ?_
      refine twp_cond _ rfl (fun h8 => ?_) (fun h8 => ?_)
      · replace hm := iteB_T h8 hm
        refine twp_rseq ?_
        iterate 2 (refine s_a tab_ok rfl ?_)
        refine tops_nil ?_
        refine w_norm [4] rfl rfl ?_
        refine twp_ret ?_
        refine way_blockRet ?_
        refine way_thenRet ?_
        obtain ⟨v9, hm, hz⟩ := inr_inv hm
        rw [hz4 _ hz] at hm
        refine way_thenRet ?_
        refine way_blockRet ?_
        obtain ⟨v10, hm, hz⟩ := inr_inv hm
        rw [hz1 _ hz] at hm
        refine way_thenRet ?_
        obtain rfl := Option.some.inj hm
        exact EndsS.one _ rfl (.d _) (.refl _)
      · replace hm := iteB_F h8 hm
        refine twp_skip ?_
        refine way_block ?_
        refine way_then ?_
        refine w_norm [0, 1, 7, 8] rfl rfl ?_
        refine twp_region ?_
        obtain ⟨g11, hm⟩ := guard_inv hm
        refine s_x rfl rfl (x_ar rfl rfl rfl rfl g11) ?_
        refine s_a tab_ok rfl ?_
        refine tops_nil ?_
        refine way_then ?_
        exact ⟨_, [], (Option.some.inj hm).symm, rfl, k0, rfl⟩
    · replace hm := ite_F h5 hm
      refine twp_exit ?_
      refine way_thenExit ?_
      obtain ⟨v12, hm, hz⟩ := inr_inv hm
      rw [hz4 _ hz] at hm
      refine way_thenExit ?_
      refine way_here ?_
      refine way_then ?_
      exact ⟨_, [], (Option.some.inj hm).symm, rfl, k0, rfl⟩
  · refine w_norm [] rfl rfl ?_
    refine twp_rseq ?_
    refine s_a tab_ok rfl ?_
    refine tops_nil ?_
    refine w_norm [4] rfl rfl ?_
    refine twp_ret ?_
    obtain rfl := Option.some.inj hm
    exact EndsS.one _ rfl (.d _) (.refl _)

theorem slices_Concat_PossessionGrow (n : Nat) (hn : n ≤ 1000000000) (mv : Nat → Bool) : Ret Try.prog 53 [] mv ([.nilsl, .int .i64 n].map .d) (.msl 0 4 0 0) [.flat 31 4 []] := by
  refine ret_body callB53 Try.func53 rfl Try.ntmps53 rfl rfl (fun wX gX => ?_)
  refine twp_norm [0, 1] (sub_d rfl (sub_d rfl .nil)) (blk_nil rfl) ?_
  refine twp_rseq ?_
  refine s_rd _ rfl (mv_d (.inr rfl) rfl) ?_
  refine tops_nil ?_
  refine twp_norm [0, 1] (sub_d rfl (sub_d rfl .nil)) (blk_nil rfl) ?_
  refine twp_seq ?_
  refine twp_rseq ?_
  refine s_rd _ rfl (mv_d (.inl rfl) rfl) ?_
  refine s_rd _ rfl (cmp_int rfl rfl rfl rfl) ?_
  refine tops_nil ?_
  refine twp_norm [0, 1, 6] (sub_d rfl (sub_d rfl (sub_d rfl .nil))) (blk_nil rfl) ?_
  refine twp_cond _ rfl (fun hneg => ?_) (fun hneg => ?_)
  · exact absurd (of_decide_eq_true hneg) (by omega)
  · refine twp_skip ?_
    refine way_then ?_
    refine twp_norm [0, 1] (sub_d rfl (sub_d rfl .nil)) (blk_nil rfl) ?_
    refine twp_seq ?_
    refine twp_rseq ?_
    refine s_rd _ rfl (mv_d (.inl rfl) rfl) ?_
    refine s_rd _ rfl (mv_d (.inl rfl) rfl) ?_
    refine s_rd _ rfl (cap_nil rfl sel29 rfl) ?_
    refine s_rd _ rfl (mv_d (.inl rfl) rfl) ?_
    refine s_rd _ rfl (len_nil rfl sel29 rfl) ?_
    refine s_rd _ rfl (arith_to (r := 0) rfl rfl rfl rfl rfl (by first | omega | (constructor <;> omega))) ?_
    refine s_rd _ rfl (arith_to (r := (n : Int)) rfl rfl rfl rfl (by omega) (by first | omega | (constructor <;> omega))) ?_
    refine s_rd _ rfl (mv_d (.inr rfl) rfl) ?_
    refine tops_nil ?_
    refine twp_norm [0, 1] (sub_d rfl (sub_d rfl .nil)) (blk_nil rfl) ?_
    refine twp_rseq ?_
    refine s_rd _ rfl (mv_d (.inl rfl) rfl) ?_
    refine s_rd _ rfl (cmp_int rfl rfl rfl rfl) ?_
    refine tops_nil ?_
    refine twp_norm [0, 1, 16] (sub_d rfl (sub_d rfl (sub_d rfl .nil))) (blk_nil rfl) ?_
    refine twp_cond _ rfl (fun hpos => ?_) (fun hpos => ?_)
    · have hpos : 0 < n := by simpa using hpos
      refine twp_region ?_
      refine s_rd _ rfl (mv_d (.inl rfl) rfl) ?_
      refine s_rd _ rfl (mv_d (.inl rfl) rfl) ?_
      refine s_rd _ rfl (cap_nil rfl sel29 rfl) ?_
      refine s_rd _ rfl (cut_nil rfl sel29 rfl rfl rfl) ?_
      refine s_rd _ rfl (mv_d (.inl rfl) rfl) ?_
      refine s_zeros (n := n) rfl sel29 Try.underlying3 zero31 rfl rfl rfl hpos (by decide) (by omega) (by omega) ?_
      refine s_rd _ rfl (mv_d (.inl rfl) rfl) ?_
      refine s_rd _ rfl (len_nil rfl sel29 rfl) ?_
      refine s_rd _ rfl (rd_cut_msl 0 4 48 0 n 0 0 rfl sel29 rfl rfl rfl (Nat.le_refl _) (Nat.zero_le _)) ?_
      refine s_rd _ rfl (mv_msl (.inr rfl) rfl) ?_
      refine tops_nil ?_
      refine way_then ?_
      refine twp_norm [0] (sub_msl rfl .nil) (blk_flat rfl (blk_nil rfl)) ?_
      refine twp_rseq ?_
      refine s_rd _ rfl (mv_msl (.inl rfl) rfl) ?_
      refine s_rd _ rfl (mv_msl (.inr rfl) rfl) ?_
      refine tops_nil ?_
      refine twp_norm [4] (sub_msl rfl .nil) (blk_flat rfl (blk_nil rfl)) ?_
      refine twp_ret ?_
      exact ⟨_, [0], res rfl, by decide, fun i hi => absurd hi (Nat.not_lt_zero i), rfl, rfl⟩
    · refine twp_upgrade 0 31 4 rfl ?_
      refine twp_skip ?_
      refine way_then ?_
      refine twp_norm [0] (sub_msl rfl .nil) (blk_flat rfl (blk_nil rfl)) ?_
      refine twp_rseq ?_
      refine s_rd _ rfl (mv_msl (.inl rfl) rfl) ?_
      refine s_rd _ rfl (mv_msl (.inr rfl) rfl) ?_
      refine tops_nil ?_
      refine twp_norm [4] (sub_msl rfl .nil) (blk_flat rfl (blk_nil rfl)) ?_
      refine twp_ret ?_
      exact ⟨_, [0], res rfl, by decide, fun i hi => absurd hi (Nat.not_lt_zero i), rfl, rfl⟩

theorem slices_Concat_PossessionConcat (xss : List (List Possession)) (hn : xss.length ≤ 1000) (ht : xss.flatten.length ≤ 1000000000) (mv : Nat → Bool) : Ret Try.prog 30 [] mv ([.sl 1 (xss.map fun l => .sl 4 (l.map Possession.enc))].map .d) (.msl 0 4 0 xss.flatten.length) [.flat 31 4 (xss.flatten.map Possession.enc)] := by
  refine ret_body callB30 Try.func30 rfl Try.ntmps30 rfl rfl (fun wX gX => ?_)
  refine twp_norm [0] (sub_d rfl .nil) (blk_nil rfl) ?_
  refine twp_rseq ?_
  refine s_rd _ rfl (mv_d (.inr rfl) rfl) ?_
  refine tops_nil ?_
  refine twp_norm [0] (sub_d rfl .nil) (blk_nil rfl) ?_
  refine twp_rseq ?_
  refine s_rd _ rfl (mv_d (.inr rfl) rfl) ?_
  refine tops_nil ?_
  refine twp_norm [0, 3] (sub_d rfl (sub_d rfl .nil)) (blk_nil rfl) ?_
  refine twp_seq ?_
  refine twp_rseq ?_
  refine s_rd _ rfl (mv_d (.inl rfl) rfl) ?_
  refine s_rd _ rfl (by first | exact len_d rfl sel89 rfl (by first | exact List.length_map _ | rfl) | exact len_nil rfl sel89 rfl) ?_
  refine s_rd _ rfl (mv_d (.inl rfl) rfl) ?_
  refine tops_nil ?_
  refine twp_norm [0, 3, 9, 10, 11] (sub_d rfl (sub_d rfl (sub_d rfl (sub_d rfl (sub_d rfl .nil))))) (blk_nil rfl) ?_
  refine twp_block ?_
  refine twp_whileK (fun i => ([(3, .d (.int .i64 ((flatTo xss i).length : Int))), (11, .d (.int .i64 ((i : Nat) : Int)))] : Fr)) (fun i => ([] : List (Nat × Blk))) (fun i => i ≤ xss.length) (fun i => xss.length - i) [3, 11] [0, 9, 10] [] 0 (by decide) (fun i hi => absurd hi (Nat.not_lt_zero i)) (Nat.zero_le _) (sub_d rfl (sub_d rfl (sub_d rfl .nil))) rfl (by rw [flat_zero]; rfl) (blk_nil rfl) rfl ?_
  rintro i hok
  refine twp_norm [3, 11, 0, 9, 10] (sub_d rfl (sub_d rfl (sub_d rfl (sub_d rfl (sub_d rfl .nil))))) (blk_nil rfl) ?_
  refine twp_rseq ?_
  refine s_rd _ rfl (cmp_int rfl rfl rfl rfl) ?_
  refine tops_nil ?_
  refine twp_norm [0, 3, 9, 10, 11, 12] (sub_d rfl (sub_d rfl (sub_d rfl (sub_d rfl (sub_d rfl (sub_d rfl .nil)))))) (blk_nil rfl) ?_
  refine twp_seq ?_
  refine twp_cond _ rfl (fun hlt => ?_) (fun hlt => ?_)
  · have hlt : i < xss.length := by simpa using hlt
    obtain ⟨x, hx⟩ : ∃ x, (xss)[i]? = some x := ⟨_, List.getElem?_eq_getElem (by first | exact hlt | omega | (simp; omega))⟩
    have hs := flat_succ hx
    have hle := flat_le xss (i + 1)
    refine twp_skip ?_
    refine way_then ?_
    refine twp_norm [0, 3, 9, 10, 11] (sub_d rfl (sub_d rfl (sub_d rfl (sub_d rfl (sub_d rfl .nil))))) (blk_nil rfl) ?_
    refine twp_seq ?_
    refine twp_block ?_
    refine twp_rseq ?_
    refine s_rd _ rfl (index_sl rfl sel89 rfl rfl (idx_map hx)) ?_
    refine s_rd _ rfl (load_ptr rfl lay29 rfl rfl) ?_
    refine s_rd _ rfl (mv_d (.inr rfl) rfl) ?_
    refine tops_nil ?_
    refine twp_norm [0, 3, 5, 9, 10, 11] (sub_d rfl (sub_d rfl (sub_d rfl (sub_d rfl (sub_d rfl (sub_d rfl .nil)))))) (blk_nil rfl) ?_
    refine twp_rseq ?_
    refine s_rd _ rfl (mv_d (.inl rfl) rfl) ?_
    refine s_rd _ rfl (mv_d (.inl rfl) rfl) ?_
    refine s_rd _ rfl (by first | exact len_d rfl sel29 rfl (by first | exact List.length_map _ | rfl) | exact len_nil rfl sel29 rfl) ?_
    refine s_rd _ rfl (arith_to (r := ((flatTo xss (i + 1)).length : Int)) rfl rfl rfl rfl (by rw [hs]; simp) (by omega)) ?_
    refine s_rd _ rfl (mv_d (.inr rfl) rfl) ?_
    refine tops_nil ?_
    refine twp_norm [0, 3, 9, 10, 11] (sub_d rfl (sub_d rfl (sub_d rfl (sub_d rfl (sub_d rfl .nil))))) (blk_nil rfl) ?_
    refine twp_rseq ?_
    refine s_rd _ rfl (mv_d (.inl rfl) rfl) ?_
    refine s_rd _ rfl (cmp_int rfl rfl rfl rfl) ?_
    refine tops_nil ?_
    refine twp_norm [0, 3, 9, 10, 11, 20] (sub_d rfl (sub_d rfl (sub_d rfl (sub_d rfl (sub_d rfl (sub_d rfl .nil)))))) (blk_nil rfl) ?_
    refine twp_cond _ rfl (fun hneg => ?_) (fun hneg => ?_)
    · exact absurd (of_decide_eq_true hneg) (by omega)
    · refine twp_skip ?_
      refine way_block ?_
      refine way_then ?_
      refine twp_norm [0, 3, 9, 10, 11] (sub_d rfl (sub_d rfl (sub_d rfl (sub_d rfl (sub_d rfl .nil))))) (blk_nil rfl) ?_
      refine twp_region ?_
      refine s_rd _ rfl (arith_ok rfl rfl rfl rfl (by first | omega | (constructor <;> omega))) ?_
      refine s_rd _ rfl (mv_d (.inl rfl) rfl) ?_
      refine tops_nil ?_
      refine way_then ?_
      exact ⟨(i + 1), [], by decide, (fun i hi => absurd hi (Nat.not_lt_zero i)), (by omega), (by omega), rfl⟩
  · have hge : ¬ i < xss.length := by simpa using hlt
    have hi : i = xss.length := by omega
    refine twp_exit ?_
    refine way_thenExit ?_
    refine way_thenExit ?_
    refine way_here ?_
    refine way_then ?_
    refine twp_norm [0, 3] (sub_d rfl (sub_d rfl .nil)) (blk_nil rfl) ?_
    refine twp_rseq ?_
    refine s_rd _ rfl (mv_d (.inl rfl) rfl) ?_
    refine s_callD rfl rfl rfl (slices_Concat_PossessionGrow _ (by have := flat_le xss i; omega) (fun _ => false)) rfl rfl ?_
    refine s_rd _ rfl (mv_msl (.inr rfl) rfl) ?_
    refine tops_nil ?_
    refine twp_norm [0, 6] (sub_d rfl (sub_msl rfl .nil)) (blk_flat rfl (blk_nil rfl)) ?_
    refine twp_seq ?_
    refine twp_rseq ?_
    refine s_rd _ rfl (mv_d (.inl rfl) rfl) ?_
    refine s_rd _ rfl (by first | exact len_d rfl sel89 rfl (by first | exact List.length_map _ | rfl) | exact len_nil rfl sel89 rfl) ?_
    refine s_rd _ rfl (mv_d (.inl rfl) rfl) ?_
    refine tops_nil ?_
    refine twp_norm [6, 25, 26, 27] (sub_msl rfl (sub_d rfl (sub_d rfl (sub_d rfl .nil)))) (blk_flat rfl (blk_nil rfl)) ?_
    refine twp_block ?_
    refine twp_whileK (fun i => ([(6, .msl 0 4 0 (flatTo xss i).length), (27, .d (.int .i64 ((i : Nat) : Int)))] : Fr)) (fun i => ([(0, .flat 31 4 ((flatTo xss i).map Possession.enc))] : List (Nat × Blk))) (fun i => i ≤ xss.length) (fun i => xss.length - i) [6, 27] [25, 26] [0] 0 (by decide) (fun i hi => absurd hi (Nat.not_lt_zero i)) (Nat.zero_le _) (sub_d rfl (sub_d rfl .nil)) rfl (by rw [flat_zero]; rfl) (blk_flat rfl (blk_nil rfl)) (by rw [flat_zero]; rfl) ?_
    rintro i hok
    refine twp_norm [6, 27, 25, 26] (sub_msl rfl (sub_d rfl (sub_d rfl (sub_d rfl .nil)))) (blk_flat rfl (blk_nil rfl)) ?_
    refine twp_rseq ?_
    refine s_rd _ rfl (cmp_int rfl rfl rfl rfl) ?_
    refine tops_nil ?_
    refine twp_norm [6, 25, 26, 27, 28] (sub_msl rfl (sub_d rfl (sub_d rfl (sub_d rfl (sub_d rfl .nil))))) (blk_flat rfl (blk_nil rfl)) ?_
    refine twp_seq ?_
    refine twp_cond _ rfl (fun hlt => ?_) (fun hlt => ?_)
    · have hlt : i < xss.length := by simpa using hlt
      obtain ⟨x, hx⟩ : ∃ x, (xss)[i]? = some x := ⟨_, List.getElem?_eq_getElem (by first | exact hlt | omega | (simp; omega))⟩
      have hs := flat_succ hx
      have hle := flat_le xss (i + 1)
      have hsl : (flatTo xss (i + 1)).length = (flatTo xss i).length + x.length := by rw [hs]; simp
      refine twp_skip ?_
      refine way_then ?_
      refine twp_norm [6, 25, 26, 27] (sub_msl rfl (sub_d rfl (sub_d rfl (sub_d rfl .nil)))) (blk_flat rfl (blk_nil rfl)) ?_
      refine twp_seq ?_
      refine twp_block ?_
      refine twp_rseq ?_
      refine s_rd _ rfl (index_sl rfl sel89 rfl rfl (idx_map hx)) ?_
      refine s_rd _ rfl (load_ptr rfl lay29 rfl rfl) ?_
      refine s_rd _ rfl (mv_d (.inr rfl) rfl) ?_
      refine tops_nil ?_
      refine twp_norm [6, 8, 25, 26, 27] (sub_msl rfl (sub_d rfl (sub_d rfl (sub_d rfl (sub_d rfl .nil))))) (blk_flat rfl (blk_nil rfl)) ?_
      refine twp_region ?_
      refine s_rd _ rfl (mv_msl (.inl rfl) rfl) ?_
      refine s_rd _ rfl (mv_d (.inl rfl) rfl) ?_
      refine s_append (m := (flatTo xss (i + 1)).length) (ds := x.map Possession.enc) (es' := (flatTo xss (i + 1)).map Possession.enc) rfl sel29 zero31 rfl rfl rfl (by simp) (fun h => absurd h (Nat.not_lt_zero _)) rfl ⟨rfl, (by first | rfl | (simp [List.map_take, List.map_drop]; done) | (rw [← List.map_drop, List.take_of_length_le (by simp)]))⟩ (by rw [hs]; simp) (by simp; omega) (by omega) (by omega) rfl rfl ?_
      refine s_rd _ rfl (mv_msl (.inr rfl) rfl) ?_
      refine tops_nil ?_
      refine way_block ?_
      refine way_then ?_
      refine twp_norm [6, 25, 26, 27] (sub_msl rfl (sub_d rfl (sub_d rfl (sub_d rfl .nil)))) (blk_flat rfl (blk_nil rfl)) ?_
      refine twp_region ?_
      refine s_rd _ rfl (arith_ok rfl rfl rfl rfl (by first | omega | (constructor <;> omega))) ?_
      refine s_rd _ rfl (mv_d (.inl rfl) rfl) ?_
      refine tops_nil ?_
      refine way_then ?_
      exact ⟨(i + 1), [0], by decide, (fun i hi => absurd hi (Nat.not_lt_zero i)), (by omega), (by omega), rfl⟩
    · have hge : ¬ i < xss.length := by simpa using hlt
      have hi : i = xss.length := by omega
      have hall := flat_all hge
      refine twp_exit ?_
      refine way_thenExit ?_
      refine way_thenExit ?_
      refine way_here ?_
      refine way_then ?_
      refine twp_norm [6] (sub_msl rfl .nil) (blk_flat rfl (blk_nil rfl)) ?_
      refine twp_rseq ?_
      refine s_rd _ rfl (mv_msl (.inl rfl) rfl) ?_
      refine s_rd _ rfl (mv_msl (.inr rfl) rfl) ?_
      refine tops_nil ?_
      refine twp_norm [2] (sub_msl rfl .nil) (blk_flat rfl (blk_nil rfl)) ?_
      refine twp_ret ?_
      rw [hall]
      exact ⟨_, [0], res rfl, by decide, fun i hi => absurd hi (Nat.not_lt_zero i), rfl, rfl⟩

theorem slices_Concat_Possession_c {p0 : List (List Possession)} {r : List Possession} (hm : slices_Concat_Possession p0 = some r) : RetN Try.prog 30 [.sl 1 (p0.map (fun l => D.sl 4 (l.map Possession.enc)))] (.sl 4 (r.map Possession.enc)) := by
  unfold slices_Concat_Possession at hm
  obtain ⟨g, hm⟩ := guard_inv hm
  obtain rfl := Option.some.inj hm
  exact .flat (slices_Concat_PossessionConcat p0 g.1 g.2 (fun _ => false)) (by rw [List.length_map]) (fun e he => by obtain ⟨x, _, rfl⟩ := List.mem_map.1 he; rfl)

theorem possession_Take_c {p0 : Table} {p1 : Inter} {p2 : (List Possession)} {p3 : Possession} {r0 : (List Possession)} {r1 : Int} (hm : possession_Take p0 p1 p2 p3 = some (r0, r1)) : RetT Try.prog 11 [p0.enc, p1.enc, .sl 4 (p2.map Possession.enc), p3.enc] [.sl 4 (r0.map Possession.enc), .int .i64 r1] := by
  refine .of (mv := fun _ => false) (ret_bodyT callB11 Try.func11 rfl Try.ntmps11 rfl rfl (fun wX gX => ?_))
  unfold possession_Take at hm
  refine w_norm [0, 1, 2, 3] rfl rfl ?_
  refine twp_rseq ?_
  refine s_bx 0 rfl rfl rfl ?_
  refine s_bx 1 rfl rfl rfl ?_
  refine s_bx 2 rfl rfl rfl ?_
  iterate 2 (refine s_a tab_ok rfl ?_)
  refine tops_nil ?_
  refine w_norm [2, 4, 5, 7] rfl rfl ?_
  refine twp_seq ?_
  refine w_joinM hm (fun x1 => ([(44, .d (.bool (x1)))] : Fr)) (fun x1 => ([] : List (Nat × Blk))) [44] [2, 4, 5, 7] rfl (fun z2 hm => ?_) (fun x1 hm => ?_)
  · refine twp_region ?_
    refine s_a tab_ok rfl ?_
    obtain ⟨r3, hr3, hm⟩ := bind_inv hm
    refine s_x rfl rfl (rd_callRN rfl rfl (snaps_cons (.d _) snaps_nil) (table_Check_c hr3)) ?_
    refine s_a tab_ok rfl ?_
    refine s_b tab_ok rfl (fun q4 hq4 => ?_)
    cases q4
    · replace hm := iteN_F hq4 hm
      iterate 4 (refine s_a tab_ok rfl ?_)
      refine s_b tab_ok rfl (fun q5 hq5 => ?_)
      cases q5
      · replace hm := ite_F hq5 hm
        iterate 6 (refine s_a tab_ok rfl ?_)
        refine s_b tab_ok rfl (fun q6 hq6 => ?_)
        cases q6
        · replace hm := ite_F hq6 hm
          iterate 4 (refine s_a tab_ok rfl ?_)
          refine s_b tab_ok rfl (fun q7 hq7 => ?_)
          cases q7
          · replace hm := ite_F hq7 hm
            iterate 4 (refine s_a tab_ok rfl ?_)
            refine s_b tab_ok rfl (fun q8 hq8 => ?_)
            cases q8
            · replace hm := ite_F hq8 hm
              iterate 6 (refine s_a tab_ok rfl ?_)
              refine tops_nil ?_
              refine way_then ?_
              exact ⟨_, [0, 1, 2], (Option.some.inj hm).symm, rfl, k0, rfl⟩
            · replace hm := ite_T hq8 hm
              iterate 6 (refine s_a tab_ok rfl ?_)
              refine tops_nil ?_
              refine way_then ?_
              exact ⟨_, [0, 1, 2], (Option.some.inj hm).symm, rfl, k0, rfl⟩
          · replace hm := ite_T hq7 hm
            iterate 11 (refine s_a tab_ok rfl ?_)
            refine tops_nil ?_
            refine way_then ?_
            exact ⟨_, [0, 1, 2], (Option.some.inj hm).symm, rfl, k0, rfl⟩
        · replace hm := ite_T hq6 hm
          iterate 16 (refine s_a tab_ok rfl ?_)
          refine tops_nil ?_
          refine way_then ?_
          exact ⟨_, [0, 1, 2], (Option.some.inj hm).symm, rfl, k0, rfl⟩
      · replace hm := ite_T hq5 hm
        iterate 23 (refine s_a tab_ok rfl ?_)
        refine tops_nil ?_
        refine way_then ?_
        exact ⟨_, [0, 1, 2], (Option.some.inj hm).symm, rfl, k0, rfl⟩
    · replace hm := iteN_T hq4 hm
      iterate 28 (refine s_a tab_ok rfl ?_)
      refine tops_nil ?_
      refine way_then ?_
      exact ⟨_, [0, 1, 2], (Option.some.inj hm).symm, rfl, k0, rfl⟩
  · refine w_norm [2, 4, 5, 7, 44] rfl rfl ?_
    refine twp_cond _ rfl (fun h9 => ?_) (fun h9 => ?_)
    · replace hm := iteB_T h9 hm
      refine twp_rseq ?_
      iterate 2 (refine s_a tab_ok rfl ?_)
      refine tops_nil ?_
      refine c_wk 8 [some 4] rfl ?_
      refine w_norm [8, 9] rfl rfl ?_
      refine twp_ret ?_
      refine way_thenRet ?_
      obtain ⟨rfl, rfl⟩ := Prod.mk.inj (Option.some.inj hm)
      exact EndsT.two rfl (.d _) (.refl _) (.d _) (.refl _)
    · replace hm := iteB_F h9 hm
      refine twp_skip ?_
      refine way_then ?_
      refine w_norm [2, 4, 5, 7] rfl rfl ?_
      refine twp_seq ?_
      refine twp_hole ?_
      refine twp_dseq follows  ?_
      refine d_a [] tab_ok rfl ?_
      obtain ⟨r10, hr10, hm⟩ := bind_inv hm
      refine d_wr [3] _ (.mmap 3) rfl (onE_A rfl) rfl (w_callB rfl rfl rfl rfl (possession_first_c hr10) (mapsTo_mem0 (fun _ => rfl) (fun _ => rfl)) (.inl ⟨rfl, rfl⟩) rfl) ?_
      refine d_a [] tab_ok rfl ?_
      refine d_a [2] tab_ok rfl ?_
      obtain ⟨g11, hm⟩ := guard_inv hm
      refine d_x [3] rfl rfl (x_look (keyF_int .i64) (D.int .i64) _ _ (0 : Int) rfl mty60 zero3 rfl rfl rfl rfl g11) ?_
      iterate 4 (refine d_a [] tab_ok rfl ?_)
      refine d_tail ?_ (by kernel_rfl)
      refine s_a tab_ok rfl ?_
      refine tops_nil ?_
      refine w_norm [2, 4, 5, 7, 11] rfl rfl ?_
      refine twp_rseq ?_
      refine s_a tab_ok rfl ?_
      refine tops_nil ?_
      refine w_norm [2, 4, 5, 7, 53] rfl rfl ?_
      refine twp_cond _ rfl (fun h12 => ?_) (fun h12 => ?_)
      · replace hm := iteB_T h12 hm
        refine twp_rseq ?_
        iterate 2 (refine s_a tab_ok rfl ?_)
        refine tops_nil ?_
        refine c_wk 8 [some 4] rfl ?_
        refine w_norm [8, 9] rfl rfl ?_
        refine twp_ret ?_
        refine way_thenRet ?_
        obtain ⟨rfl, rfl⟩ := Prod.mk.inj (Option.some.inj hm)
        exact EndsT.two rfl (.d _) (.refl _) (.d _) (.refl _)
      · replace hm := iteB_F h12 hm
        refine twp_skip ?_
        refine way_then ?_
        refine w_norm [2, 4, 5, 7] rfl rfl ?_
        refine twp_seq ?_
        refine twp_rseq ?_
        refine s_a tab_ok rfl ?_
        refine s_x rfl rfl (x_len tab_ok rfl rfl rfl) ?_
        refine s_a tab_ok rfl ?_
        refine tops_nil ?_
        refine w_norm [2, 4, 5, 7, 56] rfl rfl ?_
        refine twp_cond _ rfl (fun h13 => ?_) (fun h13 => ?_)
        · replace hm := ite_T h13 hm
          refine twp_rseq ?_
          iterate 2 (refine s_a tab_ok rfl ?_)
          refine tops_nil ?_
          refine c_wk 8 [some 4] rfl ?_
          refine w_norm [8, 9] rfl rfl ?_
          refine twp_ret ?_
          refine way_thenRet ?_
          obtain ⟨rfl, rfl⟩ := Prod.mk.inj (Option.some.inj hm)
          exact EndsT.two rfl (.d _) (.refl _) (.d _) (.refl _)
        · replace hm := ite_F h13 hm
          refine twp_skip ?_
          refine way_then ?_
          refine w_norm [2, 4, 5, 7] rfl rfl ?_
          refine twp_seq ?_
          refine twp_rseq ?_
          iterate 4 (refine s_a tab_ok rfl ?_)
          obtain ⟨r14, hr14, hm⟩ := bind_inv hm
          refine s_x rfl rfl (rd_callRN rfl rfl (snaps_cons (.d _) (snaps_cons (.d _) (snaps_cons (.d _) snaps_nil))) (possession_locked_c hr14)) ?_
          refine tops_nil ?_
          refine w_norm [2, 7, 61] rfl rfl ?_
          refine twp_cond _ rfl (fun h15 => ?_) (fun h15 => ?_)
          · replace hm := iteB_T h15 hm
            refine twp_rseq ?_
            iterate 2 (refine s_a tab_ok rfl ?_)
            refine tops_nil ?_
            refine c_wk 8 [some 4] rfl ?_
            refine w_norm [8, 9] rfl rfl ?_
            refine twp_ret ?_
            refine way_thenRet ?_
            obtain ⟨rfl, rfl⟩ := Prod.mk.inj (Option.some.inj hm)
            exact EndsT.two rfl (.d _) (.refl _) (.d _) (.refl _)
          · replace hm := iteB_F h15 hm
            refine twp_skip ?_
            refine way_then ?_
            refine w_norm [2, 7] rfl rfl ?_
            refine c_frz 2 rfl rfl rfl rfl ?_
            refine twp_rseq ?_
            iterate 2 (refine s_a tab_ok rfl ?_)
            obtain ⟨r16, hr16, hm⟩ := bind_inv hm
            refine s_x rfl rfl (rd_callRN rfl rfl (snaps_cons (.d _) (snaps_cons (.d _) snaps_nil)) (slices_IndexFunc_Possession_c (fun _ r h => ⟨29, _, rfl, (possession_Take_c1_c h).retD⟩) hr16)) ?_
            refine s_a tab_ok rfl ?_
            refine tops_nil ?_
            refine w_norm [2, 7, 12] rfl rfl ?_
            refine w_joinM hm (fun x17 => ([(12, .d (.int .i64 x17))] : Fr)) (fun x17 => ([] : List (Nat × Blk))) [12] [2, 7] rfl (fun z18 hm => ?_) (fun x17 hm => ?_)
            · refine twp_rseq ?_
              iterate 2 (refine s_a tab_ok rfl ?_)
              refine tops_nil ?_
              refine w_norm [2, 7, 12, 66] rfl rfl ?_
              refine twp_cond _ rfl (fun h19 => ?_) (fun h19 => ?_)
              · replace hm := ite_T h19 hm
                refine twp_region ?_
                refine s_a tab_ok rfl ?_
                refine s_x rfl rfl (x_len tab_ok rfl rfl rfl) ?_
                refine s_a tab_ok rfl ?_
                refine tops_nil ?_
                refine way_then ?_
                exact ⟨_, [0, 1, 2, 3], (Option.some.inj hm).symm, rfl, k0, rfl⟩
              · replace hm := ite_F h19 hm
                refine twp_skip ?_
                refine way_then ?_
                exact ⟨_, [0, 1, 2, 3], (Option.some.inj hm).symm, rfl, k0, rfl⟩
            · refine w_norm [2, 7, 12] rfl rfl ?_
              refine twp_dseq follows  ?_
              iterate 2 (refine d_a [0, 1, 2, 3] tab_ok rfl ?_)
              obtain ⟨g20, hm⟩ := guard_inv hm
              refine d_x [0, 1, 2, 3] rfl rfl (x_cut tab_ok rfl rfl rfl rfl rfl g20) ?_
              refine d_a [0, 1, 2, 3] tab_ok rfl ?_
              refine d_x [0, 1, 2, 3] rfl rfl (x_lit [.tmp 72] tab_ok rfl rfl zero31 rfl rfl rfl rfl rfl) ?_
              iterate 2 (refine d_a [0, 1, 2, 3] tab_ok rfl ?_)
              obtain ⟨g21, hm⟩ := guard_inv hm
              refine d_x [0, 1, 2, 3] rfl rfl (x_cut tab_ok rfl rfl rfl rfl rfl g21) ?_
              refine d_x [0, 1, 2, 3] rfl rfl (x_lit [.tmp 71, .tmp 73, .tmp 76] tab_ok rfl rfl zero29 rfl rfl rfl rfl rfl) ?_
              obtain ⟨r22, hr22, hm⟩ := bind_inv hm
              refine d_x [0, 1, 2, 3] rfl rfl (rd_callRN rfl rfl (snaps_cons (.d _) snaps_nil) (slices_Concat_Possession_c hr22)) ?_
              refine d_tail ?_ (by kernel_rfl)
              iterate 2 (refine s_a tab_ok rfl ?_)
              refine tops_nil ?_
              refine w_norm [8, 9] rfl rfl ?_
              refine twp_ret ?_
              obtain ⟨rfl, rfl⟩ := Prod.mk.inj (Option.some.inj hm)
              exact EndsT.two rfl (.d _) (.refl _) (.d _) (.refl _)

end Go.Proofs.Ythkgkolgdkcngaa

set_option maxHeartbeats 400000
set_option linter.unusedSimpArgs false
set_option linter.unusedVariables false
set_option maxRecDepth 20000
namespace Go.Proofs.Ythkgkolgdkcngaa
open Go Go.TL

theorem possession_Give_c {p0 : (List Possession)} {p1 : Int} {p2 : ByteArray} {r0 : (List Possession)} {r1 : Int} (hm : possession_Give p0 p1 p2 = some (r0, r1)) : RetT Try.prog 14 [.sl 4 (p0.map Possession.enc), .int .i64 p1, .str p2] [.sl 4 (r0.map Possession.enc), .int .i64 r1] := by
  refine .of (mv := fun _ => false) (ret_bodyT callB14 Try.func14 rfl Try.ntmps14 rfl rfl (fun wX gX => ?_))
  unfold possession_Give at hm
  refine w_norm [0, 1, 2] rfl rfl ?_
  refine twp_rseq ?_
  iterate 2 (refine s_a tab_ok rfl ?_)
  refine tops_nil ?_
  refine w_norm [0, 1, 2] rfl rfl ?_
  refine twp_rseq ?_
  refine s_a tab_ok rfl ?_
  obtain ⟨r1, hr1, hm⟩ := bind_inv hm
  refine s_callD rfl rfl rfl (possession_first_c hr1) rfl rfl ?_
  refine s_eq 17 (.mmap 0) rfl rfl ?_
  refine s_a tab_ok rfl ?_
  refine tops_nil ?_
  refine w_norm [0, 1, 2, 8] rfl rfl ?_
  refine twp_rseq ?_
  iterate 2 (refine s_a tab_ok rfl ?_)
  obtain ⟨g2, hm⟩ := guard_inv hm
  refine s_x rfl rfl (x_look (keyF_int .i64) (D.int .i64) _ _ (0 : Int) rfl mty60 zero3 rfl rfl rfl rfl g2) ?_
  iterate 5 (refine s_a tab_ok rfl ?_)
  refine tops_nil ?_
  refine w_norm [0, 1, 2, 8, 9, 10] rfl rfl ?_
  refine twp_seq ?_
  refine twp_rseq ?_
  iterate 2 (refine s_a tab_ok rfl ?_)
  refine tops_nil ?_
  refine w_norm [0, 1, 2, 8, 9, 25] rfl rfl ?_
  refine twp_cond _ rfl (fun h3 => ?_) (fun h3 => ?_)
  · replace hm := iteB_T h3 hm
    refine twp_rseq ?_
    iterate 2 (refine s_a tab_ok rfl ?_)
    refine tops_nil ?_
    refine c_wk 6 [some 4] rfl ?_
    refine w_norm [6, 7] rfl rfl ?_
    refine twp_ret ?_
    refine way_thenRet ?_
    obtain ⟨rfl, rfl⟩ := Prod.mk.inj (Option.some.inj hm)
    exact EndsT.two rfl (.d _) (.refl _) (.d _) (.refl _)
  · replace hm := iteB_F h3 hm
    refine twp_skip ?_
    refine way_then ?_
    refine w_norm [0, 1, 2, 8, 9] rfl rfl ?_
    refine twp_seq ?_
    refine w_joinM hm (fun x4 => ([(41, .d (.bool (x4)))] : Fr)) (fun x4 => ([] : List (Nat × Blk))) [41] [0, 1, 8, 9] rfl (fun z5 hm => ?_) (fun x4 hm => ?_)
    · refine twp_region ?_
      iterate 3 (refine s_a tab_ok rfl ?_)
      obtain ⟨e6, he6, hm⟩ := get_inv hm
      refine s_x rfl rfl (x_ix tab_ok rfl rfl rfl rfl he6) ?_
      iterate 3 (refine s_a tab_ok rfl ?_)
      refine s_b tab_ok rfl (fun q7 hq7 => ?_)
      cases q7
      · replace hm := iteN_F hq7 hm
        iterate 8 (refine s_a tab_ok rfl ?_)
        refine tops_nil ?_
        refine way_then ?_
        exact ⟨_, [0], (Option.some.inj hm).symm, rfl, k0, rfl⟩
      · replace hm := iteN_T hq7 hm
        iterate 3 (refine s_a tab_ok rfl ?_)
        obtain ⟨e8, he8, hm⟩ := get_inv hm
        refine s_x rfl rfl (x_ix tab_ok rfl rfl rfl rfl he8) ?_
        iterate 4 (refine s_a tab_ok rfl ?_)
        refine tops_nil ?_
        refine way_then ?_
        exact ⟨_, [0], (Option.some.inj hm).symm, rfl, k0, rfl⟩
    · refine w_norm [0, 1, 8, 9, 41] rfl rfl ?_
      refine twp_cond _ rfl (fun h9 => ?_) (fun h9 => ?_)
      · replace hm := iteB_T h9 hm
        refine twp_rseq ?_
        iterate 2 (refine s_a tab_ok rfl ?_)
        refine tops_nil ?_
        refine c_wk 6 [some 4] rfl ?_
        refine w_norm [6, 7] rfl rfl ?_
        refine twp_ret ?_
        refine way_thenRet ?_
        obtain ⟨rfl, rfl⟩ := Prod.mk.inj (Option.some.inj hm)
        exact EndsT.two rfl (.d _) (.refl _) (.d _) (.refl _)
      · replace hm := iteB_F h9 hm
        refine twp_skip ?_
        refine way_then ?_
        refine w_norm [0, 1, 8, 9] rfl rfl ?_
        refine twp_rseq ?_
        iterate 2 (refine s_a tab_ok rfl ?_)
        obtain ⟨g10, hm⟩ := guard_inv hm
        refine s_delE (keyF_int .i64) (D.int .i64) mty60 rfl rfl rfl g10 ?_
        refine tops_nil ?_
        refine w_norm [0, 8, 9] rfl rfl ?_
        refine twp_rseq ?_
        refine s_nilO (f := Possession.enc) 1 31 4 rfl rfl rfl ?_
        refine tops_nil ?_
        refine w_norm [0, 8, 9, 11] rfl rfl ?_
        refine w_joinM hm (fun b11 => ([(11, .msl 1 4 0 b11.length)] : Fr)) (fun b11 => ([(1, .flat 31 4 (b11.map Possession.enc))] : List (Nat × Blk))) [11] [] rfl (fun z12 hm => ?_) (fun b11 hm => ?_)
        · refine twp_rseq ?_
          refine s_a tab_ok rfl ?_
          refine s_x rfl rfl (x_len tab_ok rfl rfl rfl) ?_
          refine s_a tab_ok rfl ?_
          refine tops_nil ?_
          refine w_norm [8, 9, 11, 44, 45, 46] rfl rfl ?_
          refine twp_block ?_
          refine w_loop hm (fun (x16, b17) => ([(11, .msl 1 4 0 b17.length), (46, .d (.int .i64 x16))] : Fr)) (fun (x16, b17) => ([(1, .flat 31 4 (b17.map Possession.enc))] : List (Nat × Blk))) [11, 46] [8, 9, 44, 45] [0, 1] rfl k0 rfl rfl rfl rfl rfl (fun s z18 hm hz18 => ?_)
          obtain ⟨x16, b17⟩ := s
          refine w_norm [8, 9, 11, 44, 45, 46] rfl rfl ?_
          refine twp_rseq ?_
          refine s_a tab_ok rfl ?_
          refine tops_nil ?_
          refine w_norm [8, 9, 11, 44, 45, 46, 47] rfl rfl ?_
          refine twp_seq ?_
          refine twp_cond _ rfl (fun h19 => ?_) (fun h19 => ?_)
          · replace hm := ite_T h19 hm
            refine twp_skip ?_
            refine way_then ?_
            refine w_norm [8, 9, 11, 44, 45, 46] rfl rfl ?_
            refine twp_seq ?_
            refine twp_block ?_
            refine twp_rseq ?_
            refine s_a tab_ok rfl ?_
            obtain ⟨e20, he20, hm⟩ := get_inv hm
            refine s_x rfl rfl (x_ix tab_ok rfl rfl rfl rfl he20) ?_
            refine s_a tab_ok rfl ?_
            refine s_al 2 rfl rfl zero31 rfl ?_
            iterate 2 (refine s_a tab_ok rfl ?_)
            refine tops_nil ?_
            refine w_norm [8, 9, 11, 12, 13, 44, 45, 46] rfl rfl ?_
            refine twp_rseq ?_
            iterate 3 (refine s_a tab_ok rfl ?_)
            obtain ⟨g21, hm⟩ := guard_inv hm
            refine s_x rfl rfl (x_look (keyF_int .i64) (D.int .i64) _ _ (0 : Int) rfl mty60 zero3 rfl rfl rfl rfl g21) ?_
            iterate 5 (refine s_a tab_ok rfl ?_)
            refine tops_nil ?_
            refine w_norm [8, 9, 11, 12, 13, 15, 44, 45, 46] rfl rfl ?_
            refine w_cut [(63, .d (.bool ((((assocE (delE r1 p1) e20.sectionV).isSome) || (!(decide (x16 = ((assocE r1 p1).getD (0 : Int)))))))))] [63] [8, 9, 11, 13, 44, 45, 46] rfl ?_ ?_
            · refine twp_region ?_
              refine s_a tab_ok rfl ?_
              refine s_b tab_ok rfl (fun q22 hq22 => ?_)
              cases q22
              · iterate 4 (refine s_a tab_ok rfl ?_)
                refine tops_nil ?_
                refine way_then ?_
                exact ⟨[0, 1, 2], rfl, k0, st_eq (fr_cons (av_bool (by simp [hq22])) rfl) rfl⟩
              · iterate 4 (refine s_a tab_ok rfl ?_)
                refine tops_nil ?_
                refine way_then ?_
                exact ⟨[0, 1, 2], rfl, k0, st_eq (fr_cons (av_bool (by simp [hq22])) rfl) rfl⟩
            · refine w_norm [8, 9, 11, 13, 44, 45, 46, 63] rfl rfl ?_
              refine twp_cond _ rfl (fun h23 => ?_) (fun h23 => ?_)
              · replace hm := iteB_T h23 hm
                refine twp_region ?_
                iterate 2 (refine s_a tab_ok rfl ?_)
                refine s_x rfl rfl (x_lit [.tmp 65] tab_ok rfl rfl zero31 rfl rfl rfl rfl rfl) ?_
                obtain ⟨g24, hm⟩ := guard_inv hm
                refine s_app (f := Possession.enc) ([e20] : List Possession) tab_ok rfl rfl zero31 rfl rfl rfl rfl rfl (fun h => absurd h (Nat.not_lt_zero _)) rfl src_d g24 rfl rfl ?_
                refine s_a tab_ok rfl ?_
                refine tops_nil ?_
                refine way_block ?_
                refine way_then ?_
                refine w_norm [8, 9, 11, 44, 45, 46] rfl rfl ?_
                refine twp_region ?_
                obtain ⟨g25, hm⟩ := guard_inv hm
                refine s_x rfl rfl (x_ar rfl rfl rfl rfl g25) ?_
                refine s_a tab_ok rfl ?_
                refine tops_nil ?_
                refine way_then ?_
                exact ⟨_, [0, 1], (Option.some.inj hm).symm, rfl, k0, rfl⟩
              · replace hm := iteB_F h23 hm
                refine twp_skip ?_
                refine way_block ?_
                refine way_then ?_
                refine w_norm [8, 9, 11, 44, 45, 46] rfl rfl ?_
                refine twp_region ?_
                obtain ⟨g26, hm⟩ := guard_inv hm
                refine s_x rfl rfl (x_ar rfl rfl rfl rfl g26) ?_
                refine s_a tab_ok rfl ?_
                refine tops_nil ?_
                refine way_then ?_
                exact ⟨_, [0, 1], (Option.some.inj hm).symm, rfl, k0, rfl⟩
          · replace hm := ite_F h19 hm
            refine twp_exit ?_
            refine way_thenExit ?_
            obtain ⟨v27, hm, hz⟩ := inr_inv hm
            rw [hz18 _ hz] at hm
            refine way_thenExit ?_
            refine way_here ?_
            refine way_then ?_
            exact ⟨_, [0, 1], (Option.some.inj hm).symm, rfl, k0, rfl⟩
        · refine w_norm [11] rfl rfl ?_
          refine twp_rseq ?_
          iterate 3 (refine s_a tab_ok rfl ?_)
          refine tops_nil ?_
          refine w_norm [6, 7] rfl rfl ?_
          refine twp_ret ?_
          obtain ⟨rfl, rfl⟩ := Prod.mk.inj (Option.some.inj hm)
          exact EndsT.two rfl (snap_map rfl) (.refl _) (.d _) (.refl _)

theorem possession_Closed_c {p0 : (List Possession)} {p1 : Int} {r : (List Bool)} (hm : possession_Closed p0 p1 = some r) : RetD Try.prog 17 [.sl 4 (p0.map Possession.enc), .int .i64 p1] (.sl 1 (r.map D.bool)) := by
  refine .of (mv := fun _ => false) (ret_bodyS callB17 Try.func17 rfl Try.ntmps17 rfl rfl (fun wX gX => ?_))
  unfold possession_Closed at hm
  refine w_norm [0, 1] rfl rfl ?_
  refine twp_rseq ?_
  refine s_a tab_ok rfl ?_
  refine tops_nil ?_
  refine w_norm [0, 1] rfl rfl ?_
  refine twp_seq ?_
  refine w_cut [(13, .d (.bool (((decide (p1 < (0 : Int))) || (decide ((24 : Int) < p1))))))] [13] [0, 1] rfl ?_ ?_
  · refine twp_region ?_
    iterate 2 (refine s_a tab_ok rfl ?_)
    refine s_b tab_ok rfl (fun q1 hq1 => ?_)
    cases q1
    · iterate 3 (refine s_a tab_ok rfl ?_)
      refine tops_nil ?_
      refine way_then ?_
      exact ⟨[], rfl, k0, st_eq (fr_cons (av_bool (by simp [hq1])) rfl) rfl⟩
    · iterate 3 (refine s_a tab_ok rfl ?_)
      refine tops_nil ?_
      refine way_then ?_
      exact ⟨[], rfl, k0, st_eq (fr_cons (av_bool (by simp [hq1])) rfl) rfl⟩
  · refine w_norm [0, 1, 13] rfl rfl ?_
    refine twp_cond _ rfl (fun h2 => ?_) (fun h2 => ?_)
    · replace hm := iteB_T h2 hm
      refine twp_rseq ?_
      refine s_a tab_ok rfl ?_
      refine tops_nil ?_
      refine c_wk 4 [some 1] rfl ?_
      refine w_norm [4] rfl rfl ?_
      refine twp_ret ?_
      refine way_thenRet ?_
      obtain rfl := Option.some.inj hm
      exact EndsS.one _ rfl (.d _) (.refl _)
    · replace hm := iteB_F h2 hm
      refine twp_skip ?_
      refine way_then ?_
      refine w_norm [0, 1] rfl rfl ?_
      refine twp_rseq ?_
      refine s_a tab_ok rfl ?_
      obtain ⟨g3, hm⟩ := guard_inv hm
      refine s_mkO (f := D.bool) (x := false) 0 tab_ok rfl rfl rfl zero4 rfl rfl rfl rfl rfl g3 rfl ?_
      refine s_a tab_ok rfl ?_
      refine tops_nil ?_
      refine w_norm [0, 1, 5] rfl rfl ?_
      refine w_joinM hm (fun b4 => ([(5, .msl 0 1 0 b4.length)] : Fr)) (fun b4 => ([(0, .flat 4 1 (b4.map D.bool))] : List (Nat × Blk))) [5] [] rfl (fun z5 hm => ?_) (fun b4 hm => ?_)
      · refine twp_rseq ?_
        refine s_a tab_ok rfl ?_
        refine s_x rfl rfl (x_len tab_ok rfl rfl rfl) ?_
        refine s_a tab_ok rfl ?_
        refine tops_nil ?_
        refine w_norm [1, 5, 16, 17, 18] rfl rfl ?_
        refine twp_block ?_
        refine w_loop hm (fun (x9, b10) => ([(5, .msl 0 1 0 b10.length), (18, .d (.int .i64 x9))] : Fr)) (fun (x9, b10) => ([(0, .flat 4 1 (b10.map D.bool))] : List (Nat × Blk))) [5, 18] [1, 16, 17] [0] rfl k0 rfl rfl rfl rfl rfl (fun s z11 hm hz11 => ?_)
        obtain ⟨x9, b10⟩ := s
        refine w_norm [1, 5, 16, 17, 18] rfl rfl ?_
        refine twp_rseq ?_
        refine s_a tab_ok rfl ?_
        refine tops_nil ?_
        refine w_norm [1, 5, 16, 17, 18, 19] rfl rfl ?_
        refine twp_seq ?_
        refine twp_cond _ rfl (fun h12 => ?_) (fun h12 => ?_)
        · replace hm := ite_T h12 hm
          refine twp_skip ?_
          refine way_then ?_
          refine w_norm [1, 5, 16, 17, 18] rfl rfl ?_
          refine twp_seq ?_
          refine twp_block ?_
          refine twp_rseq ?_
          obtain ⟨e13, he13, hm⟩ := get_inv hm
          refine s_x rfl rfl (x_ix tab_ok rfl rfl rfl rfl he13) ?_
          refine s_a tab_ok rfl ?_
          refine s_al 1 rfl rfl zero31 rfl ?_
          refine s_a tab_ok rfl ?_
          refine tops_nil ?_
          refine w_norm [1, 5, 7, 16, 17, 18] rfl rfl ?_
          refine w_cut [(30, .d (.bool (((decide ((0 : Int) ≤ e13.sectionV)) && (decide (e13.sectionV < p1))))))] [30] [1, 5, 7, 16, 17, 18] rfl ?_ ?_
          · refine twp_region ?_
            iterate 3 (refine s_a tab_ok rfl ?_)
            refine s_b tab_ok rfl (fun q14 hq14 => ?_)
            cases q14
            · iterate 5 (refine s_a tab_ok rfl ?_)
              refine tops_nil ?_
              refine way_then ?_
              exact ⟨[0, 1], rfl, k0, st_eq (fr_cons (av_bool (by simp [hq14])) rfl) rfl⟩
            · iterate 5 (refine s_a tab_ok rfl ?_)
              refine tops_nil ?_
              refine way_then ?_
              exact ⟨[0, 1], rfl, k0, st_eq (fr_cons (av_bool (by simp [hq14])) rfl) rfl⟩
          · refine w_norm [1, 5, 7, 16, 17, 18, 30] rfl rfl ?_
            refine twp_cond _ rfl (fun h15 => ?_) (fun h15 => ?_)
            · replace hm := iteB_T h15 hm
              refine twp_region ?_
              iterate 3 (refine s_a tab_ok rfl ?_)
              obtain ⟨e16, he16, hm⟩ := get_inv hm
              refine s_x rfl rfl (x_ixo tab_ok rfl rfl rfl rfl he16 rfl) ?_
              refine s_sto (x' := true) tab_ok rfl rfl rfl rfl rfl he16.2 rfl rfl rfl ?_
              refine s_lno 5 (b10.set e13.sectionV.toNat true).length rfl List.length_set.symm ?_
              refine s_lno 31 (b10.set e13.sectionV.toNat true).length rfl List.length_set.symm ?_
              refine tops_nil ?_
              refine way_block ?_
              refine way_then ?_
              refine w_norm [1, 5, 16, 17, 18] rfl rfl ?_
              refine twp_region ?_
              obtain ⟨g17, hm⟩ := guard_inv hm
              refine s_x rfl rfl (x_ar rfl rfl rfl rfl g17) ?_
              refine s_a tab_ok rfl ?_
              refine tops_nil ?_
              refine way_then ?_
              exact ⟨_, [0], (Option.some.inj hm).symm, rfl, k0, rfl⟩
            · replace hm := iteB_F h15 hm
              refine twp_skip ?_
              refine way_block ?_
              refine way_then ?_
              refine w_norm [1, 5, 16, 17, 18] rfl rfl ?_
              refine twp_region ?_
              obtain ⟨g18, hm⟩ := guard_inv hm
              refine s_x rfl rfl (x_ar rfl rfl rfl rfl g18) ?_
              refine s_a tab_ok rfl ?_
              refine tops_nil ?_
              refine way_then ?_
              exact ⟨_, [0], (Option.some.inj hm).symm, rfl, k0, rfl⟩
        · replace hm := ite_F h12 hm
          refine twp_exit ?_
          refine way_thenExit ?_
          obtain ⟨v19, hm, hz⟩ := inr_inv hm
          rw [hz11 _ hz] at hm
          refine way_thenExit ?_
          refine way_here ?_
          refine way_then ?_
          exact ⟨_, [0], (Option.some.inj hm).symm, rfl, k0, rfl⟩
      · refine w_norm [5] rfl rfl ?_
        refine twp_rseq ?_
        iterate 2 (refine s_a tab_ok rfl ?_)
        refine tops_nil ?_
        refine w_norm [4] rfl rfl ?_
        refine twp_ret ?_
        obtain rfl := Option.some.inj hm
        exact EndsS.one _ rfl (snap_map rfl) (.refl _)

theorem ref42_Same_c {p0 : (List Possession)} {p1 : (List Possession)} {r : Bool} (hm : ref42_Same p0 p1 = some r) : RetN Try.prog 13 [.sl 4 (p0.map Possession.enc), .sl 4 (p1.map Possession.enc)] (.bool (r)) := by
  refine .unit (ret_bodyS callB13 Try.func13 rfl Try.ntmps13 rfl rfl (fun wX gX => ?_)) rfl
  unfold ref42_Same at hm
  refine w_norm [0, 1] rfl rfl ?_
  refine twp_rseq ?_
  refine s_a tab_ok rfl ?_
  refine tops_nil ?_
  refine w_norm [0, 1] rfl rfl ?_
  refine twp_seq ?_
  refine twp_rseq ?_
  refine s_a tab_ok rfl ?_
  refine s_x rfl rfl (x_len tab_ok rfl rfl rfl) ?_
  refine s_a tab_ok rfl ?_
  refine s_x rfl rfl (x_len tab_ok rfl rfl rfl) ?_
  refine s_a tab_ok rfl ?_
  refine tops_nil ?_
  refine w_norm [0, 1, 10] rfl rfl ?_
  refine twp_cond _ rfl (fun h1 => ?_) (fun h1 => ?_)
  · replace hm := iteN_T h1 hm
    refine twp_rseq ?_
    refine s_a tab_ok rfl ?_
    refine tops_nil ?_
    refine w_norm [4] rfl rfl ?_
    refine twp_ret ?_
    refine way_thenRet ?_
    obtain rfl := Option.some.inj hm
    exact EndsS.one _ rfl (.d _) (.refl _)
  · replace hm := iteN_F h1 hm
    refine twp_skip ?_
    refine way_then ?_
    refine w_norm [0, 1] rfl rfl ?_
    refine w_joinS hm (fun _ => ([] : Fr)) (fun _ => ([] : List (Nat × Blk))) [] [] rfl (fun z2 hm hz2 => ?_) (fun j hm => ?_)
    · refine twp_rseq ?_
      refine s_a tab_ok rfl ?_
      refine tops_nil ?_
      refine w_norm [0, 1, 5] rfl rfl ?_
      refine twp_block ?_
      refine w_loop hm (fun i4 => ([(5, .d (.int .i64 i4))] : Fr)) (fun i4 => ([] : List (Nat × Blk))) [5] [0, 1] [] rfl k0 rfl rfl rfl rfl rfl (fun i4 z5 hm hz5 => ?_)
      refine w_norm [0, 1, 5] rfl rfl ?_
      refine twp_seq ?_
      refine twp_rseq ?_
      iterate 2 (refine s_a tab_ok rfl ?_)
      refine s_x rfl rfl (x_len tab_ok rfl rfl rfl) ?_
      refine s_a tab_ok rfl ?_
      refine tops_nil ?_
      refine w_norm [0, 1, 5, 14] rfl rfl ?_
      refine twp_cond _ rfl (fun h6 => ?_) (fun h6 => ?_)
      · replace hm := ite_T h6 hm
        refine twp_skip ?_
        refine way_then ?_
        refine w_norm [0, 1, 5] rfl rfl ?_
        refine twp_seq ?_
        refine twp_block ?_
        refine twp_dseq follows  ?_
        iterate 2 (refine d_a [] tab_ok rfl ?_)
        obtain ⟨e7, he7, hm⟩ := get_inv hm
        refine d_x [] rfl rfl (x_ix tab_ok rfl rfl rfl rfl he7) ?_
        iterate 3 (refine d_a [] tab_ok rfl ?_)
        obtain ⟨e8, he8, hm⟩ := get_inv hm
        refine d_x [] rfl rfl (x_ix tab_ok rfl rfl rfl rfl he8) ?_
        refine d_a [] tab_ok rfl ?_
        obtain ⟨g9, hm⟩ := guard_inv hm
        refine d_x [] rfl rfl (Possession_ne rfl rfl rfl g9.1 g9.2) ?_
        refine d_tail ?_ (by kernel_rfl)
        refine tops_nil ?_
        refine w_norm [0, 1, 5, 25] rfl rfl ?_
        refine twp_cond _ rfl (fun h11 => ?_) (fun h11 => ?_)
        · replace hm := iteN_T h11 hm
          refine twp_rseq ?_
          refine s_a tab_ok rfl ?_
          refine tops_nil ?_
          refine w_norm [4] rfl rfl ?_
          refine twp_ret ?_
          refine way_blockRet ?_
          refine way_thenRet ?_
          obtain ⟨v12, hm, hz⟩ := inr_inv hm
          rw [hz5 _ hz] at hm
          refine way_thenRet ?_
          refine way_blockRet ?_
          obtain ⟨v13, hm, hz⟩ := inr_inv hm
          rw [hz2 _ hz] at hm
          refine way_thenRet ?_
          obtain rfl := Option.some.inj hm
          exact EndsS.one _ rfl (.d _) (.refl _)
        · replace hm := iteN_F h11 hm
          refine twp_skip ?_
          refine way_block ?_
          refine way_then ?_
          refine w_norm [0, 1, 5] rfl rfl ?_
          refine twp_region ?_
          refine s_a tab_ok rfl ?_
          obtain ⟨g14, hm⟩ := guard_inv hm
          refine s_x rfl rfl (x_ar rfl rfl rfl rfl g14) ?_
          refine s_a tab_ok rfl ?_
          refine tops_nil ?_
          refine way_then ?_
          exact ⟨_, [], (Option.some.inj hm).symm, rfl, k0, rfl⟩
      · replace hm := ite_F h6 hm
        refine twp_exit ?_
        refine way_thenExit ?_
        obtain ⟨v15, hm, hz⟩ := inr_inv hm
        rw [hz5 _ hz] at hm
        refine way_thenExit ?_
        refine way_here ?_
        refine way_then ?_
        exact ⟨_, [], (Option.some.inj hm).symm, rfl, k0, rfl⟩
    · refine w_norm [] rfl rfl ?_
      refine twp_rseq ?_
      refine s_a tab_ok rfl ?_
      refine tops_nil ?_
      refine w_norm [4] rfl rfl ?_
      refine twp_ret ?_
      obtain rfl := Option.some.inj hm
      exact EndsS.one _ rfl (.d _) (.refl _)

theorem ref42_SameBools_c {p0 : (List Bool)} {p1 : (List Bool)} {r : Bool} (hm : ref42_SameBools p0 p1 = some r) : RetN Try.prog 16 [.sl 1 (p0.map D.bool), .sl 1 (p1.map D.bool)] (.bool (r)) := by
  refine .unit (ret_bodyS callB16 Try.func16 rfl Try.ntmps16 rfl rfl (fun wX gX => ?_)) rfl
  unfold ref42_SameBools at hm
  refine w_norm [0, 1] rfl rfl ?_
  refine twp_rseq ?_
  refine s_a tab_ok rfl ?_
  refine tops_nil ?_
  refine w_norm [0, 1] rfl rfl ?_
  refine twp_seq ?_
  refine twp_rseq ?_
  refine s_a tab_ok rfl ?_
  refine s_x rfl rfl (x_len tab_ok rfl rfl rfl) ?_
  refine s_a tab_ok rfl ?_
  refine s_x rfl rfl (x_len tab_ok rfl rfl rfl) ?_
  refine s_a tab_ok rfl ?_
  refine tops_nil ?_
  refine w_norm [0, 1, 10] rfl rfl ?_
  refine twp_cond _ rfl (fun h1 => ?_) (fun h1 => ?_)
  · replace hm := iteN_T h1 hm
    refine twp_rseq ?_
    refine s_a tab_ok rfl ?_
    refine tops_nil ?_
    refine w_norm [4] rfl rfl ?_
    refine twp_ret ?_
    refine way_thenRet ?_
    obtain rfl := Option.some.inj hm
    exact EndsS.one _ rfl (.d _) (.refl _)
  · replace hm := iteN_F h1 hm
    refine twp_skip ?_
    refine way_then ?_
    refine w_norm [0, 1] rfl rfl ?_
    refine w_joinS hm (fun _ => ([] : Fr)) (fun _ => ([] : List (Nat × Blk))) [] [] rfl (fun z2 hm hz2 => ?_) (fun j hm => ?_)
    · refine twp_rseq ?_
      refine s_a tab_ok rfl ?_
      refine tops_nil ?_
      refine w_norm [0, 1, 5] rfl rfl ?_
      refine twp_block ?_
      refine w_loop hm (fun i4 => ([(5, .d (.int .i64 i4))] : Fr)) (fun i4 => ([] : List (Nat × Blk))) [5] [0, 1] [] rfl k0 rfl rfl rfl rfl rfl (fun i4 z5 hm hz5 => ?_)
      refine w_norm [0, 1, 5] rfl rfl ?_
      refine twp_seq ?_
      refine twp_rseq ?_
      iterate 2 (refine s_a tab_ok rfl ?_)
      refine s_x rfl rfl (x_len tab_ok rfl rfl rfl) ?_
      refine s_a tab_ok rfl ?_
      refine tops_nil ?_
      refine w_norm [0, 1, 5, 14] rfl rfl ?_
      refine twp_cond _ rfl (fun h6 => ?_) (fun h6 => ?_)
      · replace hm := ite_T h6 hm
        refine twp_skip ?_
        refine way_then ?_
        refine w_norm [0, 1, 5] rfl rfl ?_
        refine twp_seq ?_
        refine twp_block ?_
        refine twp_dseq follows  ?_
        iterate 2 (refine d_a [] tab_ok rfl ?_)
        obtain ⟨e7, he7, hm⟩ := get_inv hm
        refine d_x [] rfl rfl (x_ix tab_ok rfl rfl rfl rfl he7) ?_
        iterate 3 (refine d_a [] tab_ok rfl ?_)
        obtain ⟨e8, he8, hm⟩ := get_inv hm
        refine d_x [] rfl rfl (x_ix tab_ok rfl rfl rfl rfl he8) ?_
        iterate 2 (refine d_a [] tab_ok rfl ?_)
        refine d_tail ?_ (by kernel_rfl)
        refine tops_nil ?_
        refine w_norm [0, 1, 5, 25] rfl rfl ?_
        refine twp_cond _ rfl (fun h9 => ?_) (fun h9 => ?_)
        · replace hm := iteB_T h9 hm
          refine twp_rseq ?_
          refine s_a tab_ok rfl ?_
          refine tops_nil ?_
          refine w_norm [4] rfl rfl ?_
          refine twp_ret ?_
          refine way_blockRet ?_
          refine way_thenRet ?_
          obtain ⟨v10, hm, hz⟩ := inr_inv hm
          rw [hz5 _ hz] at hm
          refine way_thenRet ?_
          refine way_blockRet ?_
          obtain ⟨v11, hm, hz⟩ := inr_inv hm
          rw [hz2 _ hz] at hm
          refine way_thenRet ?_
          obtain rfl := Option.some.inj hm
          exact EndsS.one _ rfl (.d _) (.refl _)
        · replace hm := iteB_F h9 hm
          refine twp_skip ?_
          refine way_block ?_
          refine way_then ?_
          refine w_norm [0, 1, 5] rfl rfl ?_
          refine twp_region ?_
          refine s_a tab_ok rfl ?_
          obtain ⟨g12, hm⟩ := guard_inv hm
          refine s_x rfl rfl (x_ar rfl rfl rfl rfl g12) ?_
          refine s_a tab_ok rfl ?_
          refine tops_nil ?_
          refine way_then ?_
          exact ⟨_, [], (Option.some.inj hm).symm, rfl, k0, rfl⟩
      · replace hm := ite_F h6 hm
        refine twp_exit ?_
        refine way_thenExit ?_
        obtain ⟨v13, hm, hz⟩ := inr_inv hm
        rw [hz5 _ hz] at hm
        refine way_thenExit ?_
        refine way_here ?_
        refine way_then ?_
        exact ⟨_, [], (Option.some.inj hm).symm, rfl, k0, rfl⟩
    · refine w_norm [] rfl rfl ?_
      refine twp_rseq ?_
      refine s_a tab_ok rfl ?_
      refine tops_nil ?_
      refine w_norm [4] rfl rfl ?_
      refine twp_ret ?_
      obtain rfl := Option.some.inj hm
      exact EndsS.one _ rfl (.d _) (.refl _)

theorem law42_alive_c  {r : Bool} (hm : law42_alive  = some r) : RetN Try.prog 10 [] (.bool (r)) := by
  refine .unit (ret_bodyS callB10 Try.func10 rfl Try.ntmps10 rfl rfl (fun wX gX => ?_)) rfl
  unfold law42_alive at hm
  refine w_norm [] rfl rfl ?_
  refine twp_rseq ?_
  refine s_a tab_ok rfl ?_
  refine tops_nil ?_
  refine w_norm [] rfl rfl ?_
  refine twp_rseq ?_
  refine s_x rfl rfl (build_d rfl plc25 zero25 rfl rfl rfl rfl) ?_
  refine s_wk 13 [some 14, some 1, some 1, none, none] rfl ?_
  refine s_al 0 rfl rfl zero25 rfl ?_
  refine s_wkb 0 [some 14, some 1, some 1, none, none] rfl rfl ?_
  refine s_a tab_ok rfl ?_
  refine tops_nil ?_
  refine w_norm [1] rfl rfl ?_
  refine twp_rseq ?_
  refine s_x rfl rfl (build_d rfl plc31 zero31 rfl rfl rfl rfl) ?_
  refine s_x rfl rfl (build_d rfl plc31 zero31 rfl rfl rfl rfl) ?_
  refine s_x rfl rfl (x_lit [.tmp 14, .tmp 15] tab_ok rfl rfl zero31 rfl rfl rfl rfl rfl) ?_
  refine s_a tab_ok rfl ?_
  refine tops_nil ?_
  refine w_norm [1, 2] rfl rfl ?_
  refine twp_rseq ?_
  refine s_x rfl rfl (build_d rfl plc31 zero31 rfl rfl rfl rfl) ?_
  refine s_al 1 rfl rfl zero31 rfl ?_
  refine s_a tab_ok rfl ?_
  refine tops_nil ?_
  refine w_norm [1, 2, 3] rfl rfl ?_
  refine twp_rseq ?_
  refine s_a tab_ok rfl ?_
  refine s_x rfl rfl (build_d rfl plc28 zero28 rfl rfl rfl rfl) ?_
  refine s_wk 20 [some 3, some 1] rfl ?_
  iterate 2 (refine s_a tab_ok rfl ?_)
  obtain ⟨r1, hr1, hm⟩ := bind_inv hm
  obtain ⟨r2, r3⟩ := r1
  refine s_x rfl rfl (x_callT rfl rfl rfl (possession_Take_c hr1)) ?_
  iterate 5 (refine s_a tab_ok rfl ?_)
  refine tops_nil ?_
  refine w_norm [1, 2, 3, 4, 5] rfl rfl ?_
  refine twp_rseq ?_
  refine s_a tab_ok rfl ?_
  refine s_x rfl rfl (build_d rfl plc28 zero28 rfl rfl rfl rfl) ?_
  refine s_wk 28 [some 3, some 1] rfl ?_
  refine s_a tab_ok rfl ?_
  refine s_x rfl rfl (build_d rfl plc31 zero31 rfl rfl rfl rfl) ?_
  obtain ⟨r4, hr4, hm⟩ := bind_inv hm
  obtain ⟨r5, r6⟩ := r4
  refine s_x rfl rfl (x_callT rfl rfl rfl (possession_Take_c hr4)) ?_
  iterate 5 (refine s_a tab_ok rfl ?_)
  refine tops_nil ?_
  refine w_norm [2, 3, 4, 5, 7] rfl rfl ?_
  refine twp_rseq ?_
  refine s_a tab_ok rfl ?_
  obtain ⟨r7, hr7, hm⟩ := bind_inv hm
  obtain ⟨r8, r9⟩ := r7
  refine s_x rfl rfl (x_callT rfl rfl rfl (possession_Give_c hr7)) ?_
  iterate 5 (refine s_a tab_ok rfl ?_)
  refine tops_nil ?_
  refine w_norm [2, 3, 4, 5, 7, 9] rfl rfl ?_
  refine twp_rseq ?_
  refine s_a tab_ok rfl ?_
  obtain ⟨r10, hr10, hm⟩ := bind_inv hm
  obtain ⟨r11, r12⟩ := r10
  refine s_x rfl rfl (x_callT rfl rfl rfl (possession_Give_c hr10)) ?_
  iterate 5 (refine s_a tab_ok rfl ?_)
  refine tops_nil ?_
  refine w_norm [2, 3, 4, 5, 7, 9, 10, 11] rfl rfl ?_
  refine twp_rseq ?_
  refine s_a tab_ok rfl ?_
  obtain ⟨r13, hr13, hm⟩ := bind_inv hm
  refine s_x rfl rfl (rd_callRD rfl rfl rfl (possession_Closed_c hr13)) ?_
  refine s_a tab_ok rfl ?_
  refine tops_nil ?_
  refine w_norm [2, 3, 4, 5, 7, 9, 10, 11, 12] rfl rfl ?_
  refine w_joinM hm (fun x14 => ([(0, .d (.bool (x14)))] : Fr)) (fun x14 => ([] : List (Nat × Blk))) [0] [] rfl (fun z15 hm => ?_) (fun x14 hm => ?_)
  · refine twp_draw follows  ?_
    iterate 2 (refine d_a [0, 1] tab_ok rfl ?_)
    refine d_b [0, 1] tab_ok rfl (fun q16 hq16 => ?_)
    cases q16
    · replace hm := ite_F hq16 hm
      iterate 33 (refine d_a [0, 1] tab_ok rfl ?_)
      refine d_tail ?_ (by kernel_rfl)
      refine s_a tab_ok rfl ?_
      refine tops_nil ?_
      refine way_then ?_
      exact ⟨_, [0, 1], (Option.some.inj hm).symm, rfl, k0, rfl⟩
    · replace hm := ite_T hq16 hm
      refine d_a [0, 1] tab_ok rfl ?_
      refine d_x [0, 1] rfl rfl (x_len tab_ok rfl rfl rfl) ?_
      iterate 2 (refine d_a [0, 1] tab_ok rfl ?_)
      refine d_b [0, 1] tab_ok rfl (fun q17 hq17 => ?_)
      cases q17
      · replace hm := ite_F hq17 hm
        iterate 28 (refine d_a [0, 1] tab_ok rfl ?_)
        refine d_tail ?_ (by kernel_rfl)
        refine s_a tab_ok rfl ?_
        refine tops_nil ?_
        refine way_then ?_
        exact ⟨_, [0, 1], (Option.some.inj hm).symm, rfl, k0, rfl⟩
      · replace hm := ite_T hq17 hm
        refine d_a [0, 1] tab_ok rfl ?_
        obtain ⟨e18, he18, hm⟩ := get_inv hm
        refine d_x [0, 1] rfl rfl (x_ix tab_ok rfl rfl rfl rfl he18) ?_
        iterate 2 (refine d_a [0, 1] tab_ok rfl ?_)
        obtain ⟨g19, hm⟩ := guard_inv hm
        refine d_x [0, 1] rfl rfl (Possession_eq rfl rfl rfl g19.1 g19.2) ?_
        refine d_a [0, 1] tab_ok rfl ?_
        refine d_b [0, 1] tab_ok rfl (fun q21 hq21 => ?_)
        cases q21
        · replace hm := ite_F hq21 hm
          iterate 21 (refine d_a [0, 1] tab_ok rfl ?_)
          refine d_tail ?_ (by kernel_rfl)
          refine s_a tab_ok rfl ?_
          refine tops_nil ?_
          refine way_then ?_
          exact ⟨_, [0, 1], (Option.some.inj hm).symm, rfl, k0, rfl⟩
        · replace hm := ite_T hq21 hm
          iterate 3 (refine d_a [0, 1] tab_ok rfl ?_)
          refine d_b [0, 1] tab_ok rfl (fun q22 hq22 => ?_)
          cases q22
          · replace hm := ite_F hq22 hm
            iterate 17 (refine d_a [0, 1] tab_ok rfl ?_)
            refine d_tail ?_ (by kernel_rfl)
            refine s_a tab_ok rfl ?_
            refine tops_nil ?_
            refine way_then ?_
            exact ⟨_, [0, 1], (Option.some.inj hm).symm, rfl, k0, rfl⟩
          · replace hm := ite_T hq22 hm
            iterate 3 (refine d_a [0, 1] tab_ok rfl ?_)
            refine d_b [0, 1] tab_ok rfl (fun q23 hq23 => ?_)
            cases q23
            · replace hm := ite_F hq23 hm
              iterate 13 (refine d_a [0, 1] tab_ok rfl ?_)
              refine d_tail ?_ (by kernel_rfl)
              refine s_a tab_ok rfl ?_
              refine tops_nil ?_
              refine way_then ?_
              exact ⟨_, [0, 1], (Option.some.inj hm).symm, rfl, k0, rfl⟩
            · replace hm := ite_T hq23 hm
              iterate 3 (refine d_a [0, 1] tab_ok rfl ?_)
              refine d_b [0, 1] tab_ok rfl (fun q24 hq24 => ?_)
              cases q24
              · replace hm := ite_F hq24 hm
                iterate 9 (refine d_a [0, 1] tab_ok rfl ?_)
                refine d_tail ?_ (by kernel_rfl)
                refine s_a tab_ok rfl ?_
                refine tops_nil ?_
                refine way_then ?_
                exact ⟨_, [0, 1], (Option.some.inj hm).symm, rfl, k0, rfl⟩
              · replace hm := ite_T hq24 hm
                iterate 2 (refine d_a [0, 1] tab_ok rfl ?_)
                obtain ⟨r25, hr25, hm⟩ := bind_inv hm
                refine d_x [0, 1] rfl rfl (rd_callRN rfl rfl (snaps_cons (.d _) (snaps_cons (.d _) snaps_nil)) (ref42_Same_c hr25)) ?_
                refine d_a [0, 1] tab_ok rfl ?_
                refine d_b [0, 1] tab_ok rfl (fun q26 hq26 => ?_)
                cases q26
                · replace hm := iteB_F hq26 hm
                  iterate 4 (refine d_a [0, 1] tab_ok rfl ?_)
                  refine d_tail ?_ (by kernel_rfl)
                  refine s_a tab_ok rfl ?_
                  refine tops_nil ?_
                  refine way_then ?_
                  exact ⟨_, [0, 1], (Option.some.inj hm).symm, rfl, k0, rfl⟩
                · replace hm := iteB_T hq26 hm
                  refine d_a [0, 1] tab_ok rfl ?_
                  refine d_x [0, 1] rfl rfl (x_lit [.const (Value.bool Bool.false), .const (Value.bool Bool.true), .const (Value.bool Bool.false), .const (Value.bool Bool.false), .const (Value.bool Bool.false), .const (Value.bool Bool.true)] tab_ok rfl rfl zero4 rfl rfl rfl rfl rfl) ?_
                  obtain ⟨r27, hr27, hm⟩ := bind_inv hm
                  refine d_x [0, 1] rfl rfl (rd_callRN rfl rfl (snaps_cons (.d _) (snaps_cons (.d _) snaps_nil)) (ref42_SameBools_c hr27)) ?_
                  refine d_a [0, 1] tab_ok rfl ?_
                  refine d_tail ?_ (by kernel_rfl)
                  refine s_a tab_ok rfl ?_
                  refine tops_nil ?_
                  refine way_then ?_
                  exact ⟨_, [0, 1], (Option.some.inj hm).symm, rfl, k0, rfl⟩
  · refine w_norm [0] rfl rfl ?_
    refine twp_ret ?_
    obtain rfl := Option.some.inj hm
    exact EndsS.one _ rfl (.d _) (.refl _)

theorem ref16_sections_c {p0 : Table} {p1 : (List Int)} {r : Bool} (hm : ref16_sections p0 p1 = some r) : RetN Try.prog 59 [p0.enc, .sl 1 (p1.map (D.int .i64))] (.bool (r)) := by
  refine .unit (ret_bodyS callB59 Try.func59 rfl Try.ntmps59 rfl rfl (fun wX gX => ?_)) rfl
  unfold ref16_sections at hm
  refine w_norm [0, 1] rfl rfl ?_
  refine twp_rseq ?_
  refine s_bx 0 rfl rfl rfl ?_
  refine s_a tab_ok rfl ?_
  refine tops_nil ?_
  refine w_norm [1, 2] rfl rfl ?_
  refine w_joinS hm (fun _ => ([] : Fr)) (fun _ => ([] : List (Nat × Blk))) [] [] rfl (fun z1 hm hz1 => ?_) (fun j hm => ?_)
  · refine twp_rseq ?_
    refine s_a tab_ok rfl ?_
    refine s_x rfl rfl (x_len tab_ok rfl rfl rfl) ?_
    refine s_a tab_ok rfl ?_
    refine tops_nil ?_
    refine w_norm [1, 2, 8, 9, 10] rfl rfl ?_
    refine twp_block ?_
    refine w_loop hm (fun x3 => ([(10, .d (.int .i64 x3))] : Fr)) (fun x3 => ([] : List (Nat × Blk))) [10] [1, 2, 8, 9] [0] rfl k0 rfl rfl rfl rfl rfl (fun x3 z4 hm hz4 => ?_)
    refine w_norm [1, 2, 8, 9, 10] rfl rfl ?_
    refine twp_rseq ?_
    refine s_a tab_ok rfl ?_
    refine tops_nil ?_
    refine w_norm [1, 2, 8, 9, 10, 11] rfl rfl ?_
    refine twp_seq ?_
    refine twp_cond _ rfl (fun h5 => ?_) (fun h5 => ?_)
    · replace hm := ite_T h5 hm
      refine twp_skip ?_
      refine way_then ?_
      refine w_norm [1, 2, 8, 9, 10] rfl rfl ?_
      refine w_joinS hm (fun _ => ([] : Fr)) (fun _ => ([] : List (Nat × Blk))) [] [1, 2, 8, 9, 10] rfl (fun z6 hm hz6 => ?_) (fun j hm => ?_)
      · refine twp_block ?_
        refine twp_rseq ?_
        refine s_a tab_ok rfl ?_
        obtain ⟨e7, he7, hm⟩ := get_inv hm
        refine s_x rfl rfl (x_ix tab_ok rfl rfl rfl rfl he7) ?_
        iterate 3 (refine s_a tab_ok rfl ?_)
        refine tops_nil ?_
        refine w_norm [1, 2, 5, 6, 8, 9, 10] rfl rfl ?_
        refine twp_seq ?_
        refine w_cut [(22, .d (.bool (((decide (e7 < (0 : Int))) || (decide (p0.sections ≤ e7))))))] [22] [1, 2, 5, 6, 8, 9, 10] rfl ?_ ?_
        · refine twp_region ?_
          iterate 2 (refine s_a tab_ok rfl ?_)
          refine s_b tab_ok rfl (fun q8 hq8 => ?_)
          cases q8
          · iterate 5 (refine s_a tab_ok rfl ?_)
            refine tops_nil ?_
            refine way_then ?_
            exact ⟨[0], rfl, k0, st_eq (fr_cons (av_bool (by simp [hq8])) rfl) rfl⟩
          · iterate 5 (refine s_a tab_ok rfl ?_)
            refine tops_nil ?_
            refine way_then ?_
            exact ⟨[0], rfl, k0, st_eq (fr_cons (av_bool (by simp [hq8])) rfl) rfl⟩
        · refine w_norm [1, 2, 5, 6, 8, 9, 10, 22] rfl rfl ?_
          refine twp_cond _ rfl (fun h9 => ?_) (fun h9 => ?_)
          · replace hm := iteB_T h9 hm
            refine twp_rseq ?_
            refine s_a tab_ok rfl ?_
            refine tops_nil ?_
            refine w_norm [4] rfl rfl ?_
            refine twp_ret ?_
            refine way_thenRet ?_
            refine way_blockRet ?_
            obtain ⟨v10, hm, hz⟩ := inr_inv hm
            rw [hz6 _ hz] at hm
            refine way_thenRet ?_
            obtain ⟨v11, hm, hz⟩ := inr_inv hm
            rw [hz4 _ hz] at hm
            refine way_thenRet ?_
            refine way_blockRet ?_
            obtain ⟨v12, hm, hz⟩ := inr_inv hm
            rw [hz1 _ hz] at hm
            refine way_thenRet ?_
            obtain rfl := Option.some.inj hm
            exact EndsS.one _ rfl (.d _) (.refl _)
          · replace hm := iteB_F h9 hm
            refine twp_skip ?_
            refine way_then ?_
            refine w_norm [1, 2, 5, 6, 8, 9, 10] rfl rfl ?_
            refine twp_rseq ?_
            iterate 2 (refine s_a tab_ok rfl ?_)
            refine tops_nil ?_
            refine w_norm [1, 2, 6, 8, 9, 10, 23, 24] rfl rfl ?_
            refine twp_block ?_
            refine w_loop hm (fun x14 => ([(24, .d (.int .i64 x14))] : Fr)) (fun x14 => ([] : List (Nat × Blk))) [24] [1, 2, 6, 8, 9, 10, 23] [0] rfl k0 rfl rfl rfl rfl rfl (fun x14 z15 hm hz15 => ?_)
            refine w_norm [1, 2, 6, 8, 9, 10, 23, 24] rfl rfl ?_
            refine twp_rseq ?_
            refine s_a tab_ok rfl ?_
            refine tops_nil ?_
            refine w_norm [1, 2, 6, 8, 9, 10, 23, 24, 25] rfl rfl ?_
            refine twp_seq ?_
            refine twp_cond _ rfl (fun h16 => ?_) (fun h16 => ?_)
            · replace hm := ite_T h16 hm
              refine twp_skip ?_
              refine way_then ?_
              refine w_norm [1, 2, 6, 8, 9, 10, 23, 24] rfl rfl ?_
              refine twp_seq ?_
              refine twp_block ?_
              refine twp_rseq ?_
              iterate 2 (refine s_a tab_ok rfl ?_)
              refine tops_nil ?_
              refine w_norm [1, 2, 6, 7, 8, 9, 10, 23, 24] rfl rfl ?_
              refine twp_rseq ?_
              iterate 2 (refine s_a tab_ok rfl ?_)
              obtain ⟨e17, he17, hm⟩ := get_inv hm
              refine s_x rfl rfl (x_ix tab_ok rfl rfl rfl rfl he17) ?_
              iterate 3 (refine s_a tab_ok rfl ?_)
              refine tops_nil ?_
              refine w_norm [1, 2, 6, 8, 9, 10, 23, 24, 32] rfl rfl ?_
              refine twp_cond _ rfl (fun h18 => ?_) (fun h18 => ?_)
              · replace hm := ite_T h18 hm
                refine twp_rseq ?_
                refine s_a tab_ok rfl ?_
                refine tops_nil ?_
                refine w_norm [4] rfl rfl ?_
                refine twp_ret ?_
                refine way_blockRet ?_
                refine way_thenRet ?_
                obtain ⟨v19, hm, hz⟩ := inr_inv hm
                rw [hz15 _ hz] at hm
                refine way_thenRet ?_
                refine way_blockRet ?_
                refine way_blockRet ?_
                obtain ⟨v20, hm, hz⟩ := inr_inv hm
                rw [hz6 _ hz] at hm
                refine way_thenRet ?_
                obtain ⟨v21, hm, hz⟩ := inr_inv hm
                rw [hz4 _ hz] at hm
                refine way_thenRet ?_
                refine way_blockRet ?_
                obtain ⟨v22, hm, hz⟩ := inr_inv hm
                rw [hz1 _ hz] at hm
                refine way_thenRet ?_
                obtain rfl := Option.some.inj hm
                exact EndsS.one _ rfl (.d _) (.refl _)
              · replace hm := ite_F h18 hm
                refine twp_skip ?_
                refine way_block ?_
                refine way_then ?_
                refine w_norm [1, 2, 6, 8, 9, 10, 23, 24] rfl rfl ?_
                refine twp_region ?_
                obtain ⟨g23, hm⟩ := guard_inv hm
                refine s_x rfl rfl (x_ar rfl rfl rfl rfl g23) ?_
                refine s_a tab_ok rfl ?_
                refine tops_nil ?_
                refine way_then ?_
                exact ⟨_, [0], (Option.some.inj hm).symm, rfl, k0, rfl⟩
            · replace hm := ite_F h16 hm
              refine twp_exit ?_
              refine way_thenExit ?_
              obtain ⟨v24, hm, hz⟩ := inr_inv hm
              rw [hz15 _ hz] at hm
              refine way_thenExit ?_
              refine way_here ?_
              refine way_block ?_
              refine way_then ?_
              exact ⟨_, [0], (Option.some.inj hm).symm, rfl, k0, rfl⟩
      · refine w_norm [1, 2, 8, 9, 10] rfl rfl ?_
        refine twp_region ?_
        obtain ⟨g25, hm⟩ := guard_inv hm
        refine s_x rfl rfl (x_ar rfl rfl rfl rfl g25) ?_
        refine s_a tab_ok rfl ?_
        refine tops_nil ?_
        refine way_then ?_
        exact ⟨_, [0], (Option.some.inj hm).symm, rfl, k0, rfl⟩
    · replace hm := ite_F h5 hm
      refine twp_exit ?_
      refine way_thenExit ?_
      obtain ⟨v26, hm, hz⟩ := inr_inv hm
      rw [hz4 _ hz] at hm
      refine way_thenExit ?_
      refine way_here ?_
      refine way_then ?_
      exact ⟨_, [0], (Option.some.inj hm).symm, rfl, k0, rfl⟩
  · refine w_norm [] rfl rfl ?_
    refine twp_rseq ?_
    refine s_a tab_ok rfl ?_
    refine tops_nil ?_
    refine w_norm [4] rfl rfl ?_
    refine twp_ret ?_
    obtain rfl := Option.some.inj hm
    exact EndsS.one _ rfl (.d _) (.refl _)

theorem ref16_right_c {p0 : Table} {p1 : Route} {r : Bool} (hm : ref16_right p0 p1 = some r) : RetN Try.prog 36 [p0.enc, p1.enc] (.bool (r)) := by
  refine .unit (ret_bodyS callB36 Try.func36 rfl Try.ntmps36 rfl rfl (fun wX gX => ?_)) rfl
  unfold ref16_right at hm
  refine w_norm [0, 1] rfl rfl ?_
  refine twp_rseq ?_
  refine s_bx 0 rfl rfl rfl ?_
  refine s_bx 1 rfl rfl rfl ?_
  refine s_a tab_ok rfl ?_
  refine tops_nil ?_
  refine w_norm [2, 3] rfl rfl ?_
  refine twp_seq ?_
  refine w_cut [(44, .d (.bool (((decide (p1.entry < (0 : Int))) || ((decide (p0.signals ≤ p1.entry)) || ((decide (p1.exit < (-1 : Int))) || ((decide (p0.signals ≤ p1.exit)) || ((decide ((p1.path.length : Int) < (1 : Int))) || ((decide ((12 : Int) < (p1.path.length : Int))) || (decide (p1.length < (1 : Int))))))))))))] [44] [2, 3] rfl ?_ ?_
  · refine twp_region ?_
    iterate 3 (refine s_a tab_ok rfl ?_)
    refine s_b tab_ok rfl (fun q1 hq1 => ?_)
    cases q1
    · iterate 6 (refine s_a tab_ok rfl ?_)
      refine s_b tab_ok rfl (fun q2 hq2 => ?_)
      cases q2
      · iterate 4 (refine s_a tab_ok rfl ?_)
        refine s_b tab_ok rfl (fun q3 hq3 => ?_)
        cases q3
        · iterate 6 (refine s_a tab_ok rfl ?_)
          refine s_b tab_ok rfl (fun q4 hq4 => ?_)
          cases q4
          · iterate 2 (refine s_a tab_ok rfl ?_)
            refine s_x rfl rfl (x_len tab_ok rfl rfl rfl) ?_
            iterate 2 (refine s_a tab_ok rfl ?_)
            refine s_b tab_ok rfl (fun q5 hq5 => ?_)
            cases q5
            · iterate 2 (refine s_a tab_ok rfl ?_)
              refine s_x rfl rfl (x_len tab_ok rfl rfl rfl) ?_
              iterate 2 (refine s_a tab_ok rfl ?_)
              refine s_b tab_ok rfl (fun q6 hq6 => ?_)
              cases q6
              · iterate 4 (refine s_a tab_ok rfl ?_)
                refine tops_nil ?_
                refine way_then ?_
                exact ⟨[0, 1], rfl, k0, st_eq (fr_cons (av_bool (by simp [hq1, hq2, hq3, hq4, hq5, hq6])) rfl) rfl⟩
              · iterate 4 (refine s_a tab_ok rfl ?_)
                refine tops_nil ?_
                refine way_then ?_
                exact ⟨[0, 1], rfl, k0, st_eq (fr_cons (av_bool (by simp [hq1, hq2, hq3, hq4, hq5, hq6])) rfl) rfl⟩
            · iterate 10 (refine s_a tab_ok rfl ?_)
              refine tops_nil ?_
              refine way_then ?_
              exact ⟨[0, 1], rfl, k0, st_eq (fr_cons (av_bool (by simp [hq1, hq2, hq3, hq4, hq5])) rfl) rfl⟩
          · iterate 16 (refine s_a tab_ok rfl ?_)
            refine tops_nil ?_
            refine way_then ?_
            exact ⟨[0, 1], rfl, k0, st_eq (fr_cons (av_bool (by simp [hq1, hq2, hq3, hq4])) rfl) rfl⟩
        · iterate 23 (refine s_a tab_ok rfl ?_)
          refine tops_nil ?_
          refine way_then ?_
          exact ⟨[0, 1], rfl, k0, st_eq (fr_cons (av_bool (by simp [hq1, hq2, hq3])) rfl) rfl⟩
      · iterate 28 (refine s_a tab_ok rfl ?_)
        refine tops_nil ?_
        refine way_then ?_
        exact ⟨[0, 1], rfl, k0, st_eq (fr_cons (av_bool (by simp [hq1, hq2])) rfl) rfl⟩
    · iterate 35 (refine s_a tab_ok rfl ?_)
      refine tops_nil ?_
      refine way_then ?_
      exact ⟨[0, 1], rfl, k0, st_eq (fr_cons (av_bool (by simp [hq1])) rfl) rfl⟩
  · refine w_norm [2, 3, 44] rfl rfl ?_
    refine twp_cond _ rfl (fun h7 => ?_) (fun h7 => ?_)
    · replace hm := iteB_T h7 hm
      refine twp_rseq ?_
      refine s_a tab_ok rfl ?_
      refine tops_nil ?_
      refine w_norm [4] rfl rfl ?_
      refine twp_ret ?_
      refine way_thenRet ?_
      obtain rfl := Option.some.inj hm
      exact EndsS.one _ rfl (.d _) (.refl _)
    · replace hm := iteB_F h7 hm
      refine twp_skip ?_
      refine way_then ?_
      refine w_norm [2, 3] rfl rfl ?_
      refine twp_rseq ?_
      refine s_nilO (f := (D.int .i64)) 2 3 1 rfl rfl rfl ?_
      refine tops_nil ?_
      refine w_norm [2, 3, 5] rfl rfl ?_
      refine twp_rseq ?_
      iterate 3 (refine s_a tab_ok rfl ?_)
      obtain ⟨g8, hm⟩ := guard_inv hm
      refine s_app (f := (D.int .i64)) p1.sections tab_ok rfl rfl zero3 rfl rfl rfl rfl rfl (fun h => absurd h (Nat.not_lt_zero _)) rfl src_d g8 rfl rfl ?_
      refine s_a tab_ok rfl ?_
      refine tops_nil ?_
      refine w_norm [2, 3, 5] rfl rfl ?_
      refine twp_rseq ?_
      iterate 3 (refine s_a tab_ok rfl ?_)
      obtain ⟨g9, hm⟩ := guard_inv hm
      refine s_app (f := (D.int .i64)) p1.overSections tab_ok rfl rfl zero3 rfl rfl rfl rfl rfl (fun h => absurd h (Nat.not_lt_zero _)) rfl src_d g9 rfl rfl ?_
      refine s_a tab_ok rfl ?_
      refine tops_nil ?_
      refine w_norm [2, 3, 5] rfl rfl ?_
      refine w_joinM hm (fun x10 => ([(4, .d (.bool (x10)))] : Fr)) (fun x10 => ([] : List (Nat × Blk))) [4] [] rfl (fun z11 hm => ?_) (fun x10 hm => ?_)
      · refine twp_region ?_
        iterate 2 (refine s_a tab_ok rfl ?_)
        refine s_x rfl rfl (x_len tab_ok rfl rfl rfl) ?_
        refine s_a tab_ok rfl ?_
        refine s_b tab_ok rfl (fun q12 hq12 => ?_)
        cases q12
        · replace hm := ite_F hq12 hm
          iterate 17 (refine s_a tab_ok rfl ?_)
          refine tops_nil ?_
          refine way_then ?_
          exact ⟨_, [0, 1, 2], (Option.some.inj hm).symm, rfl, k0, rfl⟩
        · replace hm := ite_T hq12 hm
          iterate 2 (refine s_a tab_ok rfl ?_)
          obtain ⟨r13, hr13, hm⟩ := bind_inv hm
          refine s_x rfl rfl (rd_callRN rfl rfl (snaps_cons (.d _) (snaps_cons (snap_map rfl) snaps_nil)) (ref16_sections_c hr13)) ?_
          refine s_a tab_ok rfl ?_
          refine s_b tab_ok rfl (fun q14 hq14 => ?_)
          cases q14
          · replace hm := iteB_F hq14 hm
            iterate 12 (refine s_a tab_ok rfl ?_)
            refine tops_nil ?_
            refine way_then ?_
            exact ⟨_, [0, 1, 2], (Option.some.inj hm).symm, rfl, k0, rfl⟩
          · replace hm := iteB_T hq14 hm
            iterate 4 (refine s_a tab_ok rfl ?_)
            refine s_b tab_ok rfl (fun q15 hq15 => ?_)
            cases q15
            · replace hm := ite_F hq15 hm
              iterate 7 (refine s_a tab_ok rfl ?_)
              refine tops_nil ?_
              refine way_then ?_
              exact ⟨_, [0, 1, 2], (Option.some.inj hm).symm, rfl, k0, rfl⟩
            · replace hm := ite_T hq15 hm
              iterate 7 (refine s_a tab_ok rfl ?_)
              refine tops_nil ?_
              refine way_then ?_
              exact ⟨_, [0, 1, 2], (Option.some.inj hm).symm, rfl, k0, rfl⟩
      · refine w_norm [4] rfl rfl ?_
        refine twp_ret ?_
        obtain rfl := Option.some.inj hm
        exact EndsS.one _ rfl (.d _) (.refl _)

theorem ref16_Index_c {p0 : Table} {p1 : Int} {r : Int} (hm : ref16_Index p0 p1 = some r) : RetN Try.prog 60 [p0.enc, .int .i64 p1] (.int .i64 r) := by
  refine .unit (ret_bodyS callB60 Try.func60 rfl Try.ntmps60 rfl rfl (fun wX gX => ?_)) rfl
  unfold ref16_Index at hm
  refine w_norm [0, 1] rfl rfl ?_
  refine twp_rseq ?_
  refine s_bx 0 rfl rfl rfl ?_
  refine s_a tab_ok rfl ?_
  refine tops_nil ?_
  refine w_norm [1, 2] rfl rfl ?_
  refine w_joinS hm (fun _ => ([] : Fr)) (fun _ => ([] : List (Nat × Blk))) [] [] rfl (fun z1 hm hz1 => ?_) (fun j hm => ?_)
  · refine twp_rseq ?_
    iterate 2 (refine s_a tab_ok rfl ?_)
    refine s_x rfl rfl (x_len tab_ok rfl rfl rfl) ?_
    refine s_a tab_ok rfl ?_
    refine tops_nil ?_
    refine w_norm [1, 8, 9, 10] rfl rfl ?_
    refine twp_block ?_
    refine w_loop hm (fun x3 => ([(10, .d (.int .i64 x3))] : Fr)) (fun x3 => ([] : List (Nat × Blk))) [10] [1, 8, 9] [0] rfl k0 rfl rfl rfl rfl rfl (fun x3 z4 hm hz4 => ?_)
    refine w_norm [1, 8, 9, 10] rfl rfl ?_
    refine twp_rseq ?_
    refine s_a tab_ok rfl ?_
    refine tops_nil ?_
    refine w_norm [1, 8, 9, 10, 11] rfl rfl ?_
    refine twp_seq ?_
    refine twp_cond _ rfl (fun h5 => ?_) (fun h5 => ?_)
    · replace hm := ite_T h5 hm
      refine twp_skip ?_
      refine way_then ?_
      refine w_norm [1, 8, 9, 10] rfl rfl ?_
      refine twp_seq ?_
      refine twp_block ?_
      refine twp_rseq ?_
      refine s_a tab_ok rfl ?_
      obtain ⟨e6, he6, hm⟩ := get_inv hm
      refine s_x rfl rfl (x_ix tab_ok rfl rfl rfl rfl he6) ?_
      iterate 3 (refine s_a tab_ok rfl ?_)
      refine tops_nil ?_
      refine w_norm [1, 5, 6, 8, 9, 10] rfl rfl ?_
      refine twp_rseq ?_
      iterate 3 (refine s_a tab_ok rfl ?_)
      refine tops_nil ?_
      refine w_norm [1, 5, 8, 9, 10, 17] rfl rfl ?_
      refine twp_cond _ rfl (fun h7 => ?_) (fun h7 => ?_)
      · replace hm := ite_T h7 hm
        refine twp_rseq ?_
        iterate 2 (refine s_a tab_ok rfl ?_)
        refine tops_nil ?_
        refine w_norm [4] rfl rfl ?_
        refine twp_ret ?_
        refine way_blockRet ?_
        refine way_thenRet ?_
        obtain ⟨v8, hm, hz⟩ := inr_inv hm
        rw [hz4 _ hz] at hm
        refine way_thenRet ?_
        refine way_blockRet ?_
        obtain ⟨v9, hm, hz⟩ := inr_inv hm
        rw [hz1 _ hz] at hm
        refine way_thenRet ?_
        obtain rfl := Option.some.inj hm
        exact EndsS.one _ rfl (.d _) (.refl _)
      · replace hm := ite_F h7 hm
        refine twp_skip ?_
        refine way_block ?_
        refine way_then ?_
        refine w_norm [1, 8, 9, 10] rfl rfl ?_
        refine twp_region ?_
        obtain ⟨g10, hm⟩ := guard_inv hm
        refine s_x rfl rfl (x_ar rfl rfl rfl rfl g10) ?_
        refine s_a tab_ok rfl ?_
        refine tops_nil ?_
        refine way_then ?_
        exact ⟨_, [0], (Option.some.inj hm).symm, rfl, k0, rfl⟩
    · replace hm := ite_F h5 hm
      refine twp_exit ?_
      refine way_thenExit ?_
      obtain ⟨v11, hm, hz⟩ := inr_inv hm
      rw [hz4 _ hz] at hm
      refine way_thenExit ?_
      refine way_here ?_
      refine way_then ?_
      exact ⟨_, [0], (Option.some.inj hm).symm, rfl, k0, rfl⟩
  · refine w_norm [] rfl rfl ?_
    refine twp_rseq ?_
    refine s_a tab_ok rfl ?_
    refine tops_nil ?_
    refine w_norm [4] rfl rfl ?_
    refine twp_ret ?_
    obtain rfl := Option.some.inj hm
    exact EndsS.one _ rfl (.d _) (.refl _)

theorem ref16_settings_c {p0 : Table} {p1 : (List Setting)} {r : Bool} (hm : ref16_settings p0 p1 = some r) : RetN Try.prog 37 [p0.enc, .sl 2 (p1.map Setting.enc)] (.bool (r)) := by
  refine .unit (ret_bodyS callB37 Try.func37 rfl Try.ntmps37 rfl rfl (fun wX gX => ?_)) rfl
  unfold ref16_settings at hm
  refine w_norm [0, 1] rfl rfl ?_
  refine twp_rseq ?_
  refine s_bx 0 rfl rfl rfl ?_
  refine s_a tab_ok rfl ?_
  refine tops_nil ?_
  refine w_norm [1, 2] rfl rfl ?_
  refine w_joinS hm (fun _ => ([] : Fr)) (fun _ => ([] : List (Nat × Blk))) [] [] rfl (fun z1 hm hz1 => ?_) (fun j hm => ?_)
  · refine twp_rseq ?_
    refine s_a tab_ok rfl ?_
    refine s_x rfl rfl (x_len tab_ok rfl rfl rfl) ?_
    refine s_a tab_ok rfl ?_
    refine tops_nil ?_
    refine w_norm [1, 2, 7, 8, 9] rfl rfl ?_
    refine twp_block ?_
    refine w_loop hm (fun x3 => ([(9, .d (.int .i64 x3))] : Fr)) (fun x3 => ([] : List (Nat × Blk))) [9] [1, 2, 7, 8] [0] rfl k0 rfl rfl rfl rfl rfl (fun x3 z4 hm hz4 => ?_)
    refine w_norm [1, 2, 7, 8, 9] rfl rfl ?_
    refine twp_rseq ?_
    refine s_a tab_ok rfl ?_
    refine tops_nil ?_
    refine w_norm [1, 2, 7, 8, 9, 10] rfl rfl ?_
    refine twp_seq ?_
    refine twp_cond _ rfl (fun h5 => ?_) (fun h5 => ?_)
    · replace hm := ite_T h5 hm
      refine twp_skip ?_
      refine way_then ?_
      refine w_norm [1, 2, 7, 8, 9] rfl rfl ?_
      refine twp_seq ?_
      refine twp_block ?_
      refine twp_rseq ?_
      refine s_a tab_ok rfl ?_
      obtain ⟨e6, he6, hm⟩ := get_inv hm
      refine s_x rfl rfl (x_ix tab_ok rfl rfl rfl rfl he6) ?_
      refine s_a tab_ok rfl ?_
      refine s_al 1 rfl rfl zero83 rfl ?_
      iterate 2 (refine s_a tab_ok rfl ?_)
      refine tops_nil ?_
      refine w_norm [1, 2, 5, 6, 7, 8, 9] rfl rfl ?_
      refine w_joinM hm (fun x7 => ([(43, .d (.bool (x7)))] : Fr)) (fun x7 => ([] : List (Nat × Blk))) [43] [1, 2, 7, 8, 9] rfl (fun z8 hm => ?_) (fun x7 hm => ?_)
      · refine twp_draw follows  ?_
        iterate 3 (refine d_a [0, 1] tab_ok rfl ?_)
        obtain ⟨r9, hr9, hm⟩ := bind_inv hm
        refine d_x [0, 1] rfl rfl (rd_callRN rfl rfl (snaps_cons (.d _) (snaps_cons (.d _) snaps_nil)) (ref16_Index_c hr9)) ?_
        refine d_a [0, 1] tab_ok rfl ?_
        refine d_b [0, 1] tab_ok rfl (fun q10 hq10 => ?_)
        cases q10
        · replace hm := ite_F hq10 hm
          iterate 4 (refine d_a [0, 1] tab_ok rfl ?_)
          refine d_b [0, 1] tab_ok rfl (fun q11 hq11 => ?_)
          cases q11
          · replace hm := ite_F hq11 hm
            iterate 4 (refine d_a [0, 1] tab_ok rfl ?_)
            refine d_b [0, 1] tab_ok rfl (fun q12 hq12 => ?_)
            cases q12
            · replace hm := ite_F hq12 hm
              iterate 2 (refine d_a [0, 1] tab_ok rfl ?_)
              refine d_b [0, 1] tab_ok rfl (fun q13 hq13 => ?_)
              cases q13
              · replace hm := ite_F hq13 hm
                iterate 11 (refine d_a [0, 1] tab_ok rfl ?_)
                refine d_tail ?_ (by kernel_rfl)
                refine tops_nil ?_
                refine way_then ?_
                exact ⟨_, [0, 1], (Option.some.inj hm).symm, rfl, k0, rfl⟩
              · replace hm := ite_T hq13 hm
                iterate 2 (refine d_a [0, 1] tab_ok rfl ?_)
                obtain ⟨g14, hm⟩ := guard_inv hm
                refine d_x [0, 1] rfl rfl (x_ar rfl rfl rfl rfl g14) ?_
                obtain ⟨e15, he15, hm⟩ := get_inv hm
                refine d_x [0, 1] rfl rfl (x_ix tab_ok rfl rfl rfl rfl he15) ?_
                iterate 7 (refine d_a [0, 1] tab_ok rfl ?_)
                refine d_tail ?_ (by kernel_rfl)
                refine tops_nil ?_
                refine way_then ?_
                exact ⟨_, [0, 1], (Option.some.inj hm).symm, rfl, k0, rfl⟩
            · replace hm := ite_T hq12 hm
              iterate 14 (refine d_a [0, 1] tab_ok rfl ?_)
              refine d_tail ?_ (by kernel_rfl)
              refine tops_nil ?_
              refine way_then ?_
              exact ⟨_, [0, 1], (Option.some.inj hm).symm, rfl, k0, rfl⟩
          · replace hm := ite_T hq11 hm
            iterate 19 (refine d_a [0, 1] tab_ok rfl ?_)
            refine d_tail ?_ (by kernel_rfl)
            refine tops_nil ?_
            refine way_then ?_
            exact ⟨_, [0, 1], (Option.some.inj hm).symm, rfl, k0, rfl⟩
        · replace hm := ite_T hq10 hm
          iterate 24 (refine d_a [0, 1] tab_ok rfl ?_)
          refine d_tail ?_ (by kernel_rfl)
          refine tops_nil ?_
          refine way_then ?_
          exact ⟨_, [0, 1], (Option.some.inj hm).symm, rfl, k0, rfl⟩
      · refine w_norm [1, 2, 7, 8, 9, 43] rfl rfl ?_
        refine twp_cond _ rfl (fun h16 => ?_) (fun h16 => ?_)
        · replace hm := iteB_T h16 hm
          refine twp_rseq ?_
          refine s_a tab_ok rfl ?_
          refine tops_nil ?_
          refine w_norm [4] rfl rfl ?_
          refine twp_ret ?_
          refine way_blockRet ?_
          refine way_thenRet ?_
          obtain ⟨v17, hm, hz⟩ := inr_inv hm
          rw [hz4 _ hz] at hm
          refine way_thenRet ?_
          refine way_blockRet ?_
          obtain ⟨v18, hm, hz⟩ := inr_inv hm
          rw [hz1 _ hz] at hm
          refine way_thenRet ?_
          obtain rfl := Option.some.inj hm
          exact EndsS.one _ rfl (.d _) (.refl _)
        · replace hm := iteB_F h16 hm
          refine twp_skip ?_
          refine way_block ?_
          refine way_then ?_
          refine w_norm [1, 2, 7, 8, 9] rfl rfl ?_
          refine twp_region ?_
          obtain ⟨g19, hm⟩ := guard_inv hm
          refine s_x rfl rfl (x_ar rfl rfl rfl rfl g19) ?_
          refine s_a tab_ok rfl ?_
          refine tops_nil ?_
          refine way_then ?_
          exact ⟨_, [0], (Option.some.inj hm).symm, rfl, k0, rfl⟩
    · replace hm := ite_F h5 hm
      refine twp_exit ?_
      refine way_thenExit ?_
      obtain ⟨v20, hm, hz⟩ := inr_inv hm
      rw [hz4 _ hz] at hm
      refine way_thenExit ?_
      refine way_here ?_
      refine way_then ?_
      exact ⟨_, [0], (Option.some.inj hm).symm, rfl, k0, rfl⟩
  · refine w_norm [] rfl rfl ?_
    refine twp_rseq ?_
    refine s_a tab_ok rfl ?_
    refine tops_nil ?_
    refine w_norm [4] rfl rfl ?_
    refine twp_ret ?_
    obtain rfl := Option.some.inj hm
    exact EndsS.one _ rfl (.d _) (.refl _)

theorem ref16_agree_c {p0 : (List Setting)} {p1 : (List Setting)} {r : Bool} (hm : ref16_agree p0 p1 = some r) : RetN Try.prog 38 [.sl 2 (p0.map Setting.enc), .sl 2 (p1.map Setting.enc)] (.bool (r)) := by
  refine .unit (ret_bodyS callB38 Try.func38 rfl Try.ntmps38 rfl rfl (fun wX gX => ?_)) rfl
  unfold ref16_agree at hm
  refine w_norm [0, 1] rfl rfl ?_
  refine twp_rseq ?_
  refine s_a tab_ok rfl ?_
  refine tops_nil ?_
  refine w_norm [0, 1] rfl rfl ?_
  refine w_joinS hm (fun _ => ([] : Fr)) (fun _ => ([] : List (Nat × Blk))) [] [] rfl (fun z1 hm hz1 => ?_) (fun j hm => ?_)
  · refine twp_rseq ?_
    refine s_a tab_ok rfl ?_
    refine s_x rfl rfl (x_len tab_ok rfl rfl rfl) ?_
    refine s_a tab_ok rfl ?_
    refine tops_nil ?_
    refine w_norm [1, 9, 10, 11] rfl rfl ?_
    refine twp_block ?_
    refine w_loop hm (fun x3 => ([(11, .d (.int .i64 x3))] : Fr)) (fun x3 => ([] : List (Nat × Blk))) [11] [1, 9, 10] [] rfl k0 rfl rfl rfl rfl rfl (fun x3 z4 hm hz4 => ?_)
    refine w_norm [1, 9, 10, 11] rfl rfl ?_
    refine twp_rseq ?_
    refine s_a tab_ok rfl ?_
    refine tops_nil ?_
    refine w_norm [1, 9, 10, 11, 12] rfl rfl ?_
    refine twp_seq ?_
    refine twp_cond _ rfl (fun h5 => ?_) (fun h5 => ?_)
    · replace hm := ite_T h5 hm
      refine twp_skip ?_
      refine way_then ?_
      refine w_norm [1, 9, 10, 11] rfl rfl ?_
      refine w_joinS hm (fun _ => ([] : Fr)) (fun _ => ([] : List (Nat × Blk))) [] [1, 9, 10, 11] rfl (fun z6 hm hz6 => ?_) (fun j hm => ?_)
      · refine twp_block ?_
        refine twp_rseq ?_
        obtain ⟨e7, he7, hm⟩ := get_inv hm
        refine s_x rfl rfl (x_ix tab_ok rfl rfl rfl rfl he7) ?_
        refine s_a tab_ok rfl ?_
        refine s_al 0 rfl rfl zero83 rfl ?_
        refine s_a tab_ok rfl ?_
        refine tops_nil ?_
        refine w_norm [1, 6, 9, 10, 11] rfl rfl ?_
        refine twp_rseq ?_
        refine s_a tab_ok rfl ?_
        refine s_x rfl rfl (x_len tab_ok rfl rfl rfl) ?_
        refine s_a tab_ok rfl ?_
        refine tops_nil ?_
        refine w_norm [1, 6, 9, 10, 11, 15, 16, 17] rfl rfl ?_
        refine twp_block ?_
        refine w_loop hm (fun x9 => ([(17, .d (.int .i64 x9))] : Fr)) (fun x9 => ([] : List (Nat × Blk))) [17] [1, 6, 9, 10, 11, 15, 16] [0] rfl k0 rfl rfl rfl rfl rfl (fun x9 z10 hm hz10 => ?_)
        refine w_norm [1, 6, 9, 10, 11, 15, 16, 17] rfl rfl ?_
        refine twp_rseq ?_
        refine s_a tab_ok rfl ?_
        refine tops_nil ?_
        refine w_norm [1, 6, 9, 10, 11, 15, 16, 17, 18] rfl rfl ?_
        refine twp_seq ?_
        refine twp_cond _ rfl (fun h11 => ?_) (fun h11 => ?_)
        · replace hm := ite_T h11 hm
          refine twp_skip ?_
          refine way_then ?_
          refine w_norm [1, 6, 9, 10, 11, 15, 16, 17] rfl rfl ?_
          refine twp_seq ?_
          refine twp_block ?_
          refine twp_rseq ?_
          obtain ⟨e12, he12, hm⟩ := get_inv hm
          refine s_x rfl rfl (x_ix tab_ok rfl rfl rfl rfl he12) ?_
          refine s_a tab_ok rfl ?_
          refine s_al 1 rfl rfl zero83 rfl ?_
          refine s_a tab_ok rfl ?_
          refine tops_nil ?_
          refine w_norm [1, 6, 8, 9, 10, 11, 15, 16, 17] rfl rfl ?_
          refine w_cut [(32, .d (.bool (((decide (e7.el = e12.el)) && (!(decide (e7.pos = e12.pos)))))))] [32] [1, 6, 9, 10, 11, 15, 16, 17] rfl ?_ ?_
          · refine twp_region ?_
            iterate 5 (refine s_a tab_ok rfl ?_)
            refine s_b tab_ok rfl (fun q13 hq13 => ?_)
            cases q13
            · iterate 6 (refine s_a tab_ok rfl ?_)
              refine tops_nil ?_
              refine way_then ?_
              exact ⟨[0, 1], rfl, k0, st_eq (fr_cons (av_bool (by simp [hq13])) rfl) rfl⟩
            · iterate 6 (refine s_a tab_ok rfl ?_)
              refine tops_nil ?_
              refine way_then ?_
              exact ⟨[0, 1], rfl, k0, st_eq (fr_cons (av_bool (by simp [hq13])) rfl) rfl⟩
          · refine w_norm [1, 6, 9, 10, 11, 15, 16, 17, 32] rfl rfl ?_
            refine twp_cond _ rfl (fun h14 => ?_) (fun h14 => ?_)
            · replace hm := iteB_T h14 hm
              refine twp_rseq ?_
              refine s_a tab_ok rfl ?_
              refine tops_nil ?_
              refine w_norm [4] rfl rfl ?_
              refine twp_ret ?_
              refine way_blockRet ?_
              refine way_thenRet ?_
              obtain ⟨v15, hm, hz⟩ := inr_inv hm
              rw [hz10 _ hz] at hm
              refine way_thenRet ?_
              refine way_blockRet ?_
              refine way_blockRet ?_
              obtain ⟨v16, hm, hz⟩ := inr_inv hm
              rw [hz6 _ hz] at hm
              refine way_thenRet ?_
              obtain ⟨v17, hm, hz⟩ := inr_inv hm
              rw [hz4 _ hz] at hm
              refine way_thenRet ?_
              refine way_blockRet ?_
              obtain ⟨v18, hm, hz⟩ := inr_inv hm
              rw [hz1 _ hz] at hm
              refine way_thenRet ?_
              obtain rfl := Option.some.inj hm
              exact EndsS.one _ rfl (.d _) (.refl _)
            · replace hm := iteB_F h14 hm
              refine twp_skip ?_
              refine way_block ?_
              refine way_then ?_
              refine w_norm [1, 6, 9, 10, 11, 15, 16, 17] rfl rfl ?_
              refine twp_region ?_
              obtain ⟨g19, hm⟩ := guard_inv hm
              refine s_x rfl rfl (x_ar rfl rfl rfl rfl g19) ?_
              refine s_a tab_ok rfl ?_
              refine tops_nil ?_
              refine way_then ?_
              exact ⟨_, [0], (Option.some.inj hm).symm, rfl, k0, rfl⟩
        · replace hm := ite_F h11 hm
          refine twp_exit ?_
          refine way_thenExit ?_
          obtain ⟨v20, hm, hz⟩ := inr_inv hm
          rw [hz10 _ hz] at hm
          refine way_thenExit ?_
          refine way_here ?_
          refine way_block ?_
          refine way_then ?_
          exact ⟨_, [], (Option.some.inj hm).symm, rfl, k0, rfl⟩
      · refine w_norm [1, 9, 10, 11] rfl rfl ?_
        refine twp_region ?_
        obtain ⟨g21, hm⟩ := guard_inv hm
        refine s_x rfl rfl (x_ar rfl rfl rfl rfl g21) ?_
        refine s_a tab_ok rfl ?_
        refine tops_nil ?_
        refine way_then ?_
        exact ⟨_, [], (Option.some.inj hm).symm, rfl, k0, rfl⟩
    · replace hm := ite_F h5 hm
      refine twp_exit ?_
      refine way_thenExit ?_
      obtain ⟨v22, hm, hz⟩ := inr_inv hm
      rw [hz4 _ hz] at hm
      refine way_thenExit ?_
      refine way_here ?_
      refine way_then ?_
      exact ⟨_, [], (Option.some.inj hm).symm, rfl, k0, rfl⟩
  · refine w_norm [] rfl rfl ?_
    refine twp_rseq ?_
    refine s_a tab_ok rfl ?_
    refine tops_nil ?_
    refine w_norm [4] rfl rfl ?_
    refine twp_ret ?_
    obtain rfl := Option.some.inj hm
    exact EndsS.one _ rfl (.d _) (.refl _)

end Go.Proofs.Ythkgkolgdkcngaa

set_option maxHeartbeats 400000
set_option linter.unusedSimpArgs false
set_option linter.unusedVariables false
set_option maxRecDepth 20000
namespace Go.Proofs.Ythkgkolgdkcngaa
open Go Go.TL

theorem ref16_Find_c {p0 : Table} {p1 : ByteArray} {r : Int} (hm : ref16_Find p0 p1 = some r) : RetN Try.prog 39 [p0.enc, .str p1] (.int .i64 r) := by
  refine .unit (ret_bodyS callB39 Try.func39 rfl Try.ntmps39 rfl rfl (fun wX gX => ?_)) rfl
  unfold ref16_Find at hm
  refine w_norm [0, 1] rfl rfl ?_
  refine twp_rseq ?_
  refine s_bx 0 rfl rfl rfl ?_
  refine s_a tab_ok rfl ?_
  refine tops_nil ?_
  refine w_norm [1, 2] rfl rfl ?_
  refine w_joinS hm (fun _ => ([] : Fr)) (fun _ => ([] : List (Nat × Blk))) [] [] rfl (fun z1 hm hz1 => ?_) (fun j hm => ?_)
  · refine twp_rseq ?_
    iterate 2 (refine s_a tab_ok rfl ?_)
    refine s_x rfl rfl (x_len tab_ok rfl rfl rfl) ?_
    refine s_a tab_ok rfl ?_
    refine tops_nil ?_
    refine w_norm [1, 8, 9, 10] rfl rfl ?_
    refine twp_block ?_
    refine w_loop hm (fun x3 => ([(10, .d (.int .i64 x3))] : Fr)) (fun x3 => ([] : List (Nat × Blk))) [10] [1, 8, 9] [0] rfl k0 rfl rfl rfl rfl rfl (fun x3 z4 hm hz4 => ?_)
    refine w_norm [1, 8, 9, 10] rfl rfl ?_
    refine twp_rseq ?_
    refine s_a tab_ok rfl ?_
    refine tops_nil ?_
    refine w_norm [1, 8, 9, 10, 11] rfl rfl ?_
    refine twp_seq ?_
    refine twp_cond _ rfl (fun h5 => ?_) (fun h5 => ?_)
    · replace hm := ite_T h5 hm
      refine twp_skip ?_
      refine way_then ?_
      refine w_norm [1, 8, 9, 10] rfl rfl ?_
      refine twp_seq ?_
      refine twp_block ?_
      refine twp_rseq ?_
      refine s_a tab_ok rfl ?_
      obtain ⟨e6, he6, hm⟩ := get_inv hm
      refine s_x rfl rfl (x_ix tab_ok rfl rfl rfl rfl he6) ?_
      refine s_a tab_ok rfl ?_
      refine s_al 1 rfl rfl zero55 rfl ?_
      refine s_wkb 1 [none, none, none, some 3, some 2, some 1, none, none, some 3, some 2, some 1, some 2, some 1, some 2] rfl rfl ?_
      iterate 2 (refine s_a tab_ok rfl ?_)
      refine tops_nil ?_
      refine w_norm [1, 5, 6, 8, 9, 10] rfl rfl ?_
      refine twp_rseq ?_
      iterate 4 (refine s_a tab_ok rfl ?_)
      refine tops_nil ?_
      refine w_norm [1, 5, 8, 9, 10, 18] rfl rfl ?_
      refine twp_cond _ rfl (fun h7 => ?_) (fun h7 => ?_)
      · replace hm := ite_T h7 hm
        refine twp_rseq ?_
        iterate 2 (refine s_a tab_ok rfl ?_)
        refine tops_nil ?_
        refine w_norm [4] rfl rfl ?_
        refine twp_ret ?_
        refine way_blockRet ?_
        refine way_thenRet ?_
        obtain ⟨v8, hm, hz⟩ := inr_inv hm
        rw [hz4 _ hz] at hm
        refine way_thenRet ?_
        refine way_blockRet ?_
        obtain ⟨v9, hm, hz⟩ := inr_inv hm
        rw [hz1 _ hz] at hm
        refine way_thenRet ?_
        obtain rfl := Option.some.inj hm
        exact EndsS.one _ rfl (.d _) (.refl _)
      · replace hm := ite_F h7 hm
        refine twp_skip ?_
        refine way_block ?_
        refine way_then ?_
        refine w_norm [1, 8, 9, 10] rfl rfl ?_
        refine twp_region ?_
        obtain ⟨g10, hm⟩ := guard_inv hm
        refine s_x rfl rfl (x_ar rfl rfl rfl rfl g10) ?_
        refine s_a tab_ok rfl ?_
        refine tops_nil ?_
        refine way_then ?_
        exact ⟨_, [0], (Option.some.inj hm).symm, rfl, k0, rfl⟩
    · replace hm := ite_F h5 hm
      refine twp_exit ?_
      refine way_thenExit ?_
      obtain ⟨v11, hm, hz⟩ := inr_inv hm
      rw [hz4 _ hz] at hm
      refine way_thenExit ?_
      refine way_here ?_
      refine way_then ?_
      exact ⟨_, [0], (Option.some.inj hm).symm, rfl, k0, rfl⟩
  · refine w_norm [] rfl rfl ?_
    refine twp_rseq ?_
    refine s_a tab_ok rfl ?_
    refine tops_nil ?_
    refine w_norm [4] rfl rfl ?_
    refine twp_ret ?_
    obtain rfl := Option.some.inj hm
    exact EndsS.one _ rfl (.d _) (.refl _)

theorem ref16_Check_c {p0 : Table} {r : Int} (hm : ref16_Check p0 = some r) : RetN Try.prog 22 [p0.enc] (.int .i64 r) := by
  refine .unit (ret_bodyS callB22 Try.func22 rfl Try.ntmps22 rfl rfl (fun wX gX => ?_)) rfl
  unfold ref16_Check at hm
  refine w_norm [0] rfl rfl ?_
  refine twp_rseq ?_
  refine s_bx 0 rfl rfl rfl ?_
  refine s_a tab_ok rfl ?_
  refine tops_nil ?_
  refine w_norm [1] rfl rfl ?_
  refine twp_seq ?_
  refine w_cut [(40, .d (.bool (((decide ((48 : Int) < (p0.routes.length : Int))) || ((decide ((32 : Int) < (p0.points.length : Int))) || ((decide (p0.sections < (0 : Int))) || ((decide ((24 : Int) < p0.sections)) || ((decide (p0.signals < (0 : Int))) || (decide ((20 : Int) < p0.signals))))))))))] [40] [1] rfl ?_ ?_
  · refine twp_region ?_
    iterate 2 (refine s_a tab_ok rfl ?_)
    refine s_x rfl rfl (x_len tab_ok rfl rfl rfl) ?_
    refine s_a tab_ok rfl ?_
    refine s_b tab_ok rfl (fun q1 hq1 => ?_)
    cases q1
    · iterate 2 (refine s_a tab_ok rfl ?_)
      refine s_x rfl rfl (x_len tab_ok rfl rfl rfl) ?_
      iterate 2 (refine s_a tab_ok rfl ?_)
      refine s_b tab_ok rfl (fun q2 hq2 => ?_)
      cases q2
      · iterate 4 (refine s_a tab_ok rfl ?_)
        refine s_b tab_ok rfl (fun q3 hq3 => ?_)
        cases q3
        · iterate 4 (refine s_a tab_ok rfl ?_)
          refine s_b tab_ok rfl (fun q4 hq4 => ?_)
          cases q4
          · iterate 4 (refine s_a tab_ok rfl ?_)
            refine s_b tab_ok rfl (fun q5 hq5 => ?_)
            cases q5
            · iterate 4 (refine s_a tab_ok rfl ?_)
              refine tops_nil ?_
              refine way_then ?_
              exact ⟨[0], rfl, k0, st_eq (fr_cons (av_bool (by simp [hq1, hq2, hq3, hq4, hq5])) rfl) rfl⟩
            · iterate 4 (refine s_a tab_ok rfl ?_)
              refine tops_nil ?_
              refine way_then ?_
              exact ⟨[0], rfl, k0, st_eq (fr_cons (av_bool (by simp [hq1, hq2, hq3, hq4, hq5])) rfl) rfl⟩
          · iterate 9 (refine s_a tab_ok rfl ?_)
            refine tops_nil ?_
            refine way_then ?_
            exact ⟨[0], rfl, k0, st_eq (fr_cons (av_bool (by simp [hq1, hq2, hq3, hq4])) rfl) rfl⟩
        · iterate 14 (refine s_a tab_ok rfl ?_)
          refine tops_nil ?_
          refine way_then ?_
          exact ⟨[0], rfl, k0, st_eq (fr_cons (av_bool (by simp [hq1, hq2, hq3])) rfl) rfl⟩
      · iterate 19 (refine s_a tab_ok rfl ?_)
        refine tops_nil ?_
        refine way_then ?_
        exact ⟨[0], rfl, k0, st_eq (fr_cons (av_bool (by simp [hq1, hq2])) rfl) rfl⟩
    · iterate 25 (refine s_a tab_ok rfl ?_)
      refine tops_nil ?_
      refine way_then ?_
      exact ⟨[0], rfl, k0, st_eq (fr_cons (av_bool (by simp [hq1])) rfl) rfl⟩
  · refine w_norm [1, 40] rfl rfl ?_
    refine twp_cond _ rfl (fun h6 => ?_) (fun h6 => ?_)
    · replace hm := iteB_T h6 hm
      refine twp_rseq ?_
      refine s_a tab_ok rfl ?_
      refine tops_nil ?_
      refine w_norm [2] rfl rfl ?_
      refine twp_ret ?_
      refine way_thenRet ?_
      obtain rfl := Option.some.inj hm
      exact EndsS.one _ rfl (.d _) (.refl _)
    · replace hm := iteB_F h6 hm
      refine twp_skip ?_
      refine way_then ?_
      refine w_norm [1] rfl rfl ?_
      refine twp_seq ?_
      refine twp_rseq ?_
      iterate 2 (refine s_a tab_ok rfl ?_)
      refine s_x rfl rfl (x_len tab_ok rfl rfl rfl) ?_
      iterate 2 (refine s_a tab_ok rfl ?_)
      refine s_x rfl rfl (x_len tab_ok rfl rfl rfl) ?_
      refine s_a tab_ok rfl ?_
      refine tops_nil ?_
      refine w_norm [1, 47] rfl rfl ?_
      refine twp_cond _ rfl (fun h7 => ?_) (fun h7 => ?_)
      · replace hm := iteN_T h7 hm
        refine twp_rseq ?_
        refine s_a tab_ok rfl ?_
        refine tops_nil ?_
        refine w_norm [2] rfl rfl ?_
        refine twp_ret ?_
        refine way_thenRet ?_
        obtain rfl := Option.some.inj hm
        exact EndsS.one _ rfl (.d _) (.refl _)
      · replace hm := iteN_F h7 hm
        refine twp_skip ?_
        refine way_then ?_
        refine w_norm [1] rfl rfl ?_
        refine w_joinS hm (fun _ => ([] : Fr)) (fun _ => ([] : List (Nat × Blk))) [] [1] rfl (fun z8 hm hz8 => ?_) (fun j hm => ?_)
        · refine twp_rseq ?_
          iterate 2 (refine s_a tab_ok rfl ?_)
          refine s_x rfl rfl (x_len tab_ok rfl rfl rfl) ?_
          refine s_a tab_ok rfl ?_
          refine tops_nil ?_
          refine w_norm [1, 49, 50, 51] rfl rfl ?_
          refine twp_block ?_
          refine w_loop hm (fun x10 => ([(51, .d (.int .i64 x10))] : Fr)) (fun x10 => ([] : List (Nat × Blk))) [51] [1, 49, 50] [0] rfl k0 rfl rfl rfl rfl rfl (fun x10 z11 hm hz11 => ?_)
          refine w_norm [1, 49, 50, 51] rfl rfl ?_
          refine twp_rseq ?_
          refine s_a tab_ok rfl ?_
          refine tops_nil ?_
          refine w_norm [1, 49, 50, 51, 52] rfl rfl ?_
          refine twp_seq ?_
          refine twp_cond _ rfl (fun h12 => ?_) (fun h12 => ?_)
          · replace hm := ite_T h12 hm
            refine twp_skip ?_
            refine way_then ?_
            refine w_norm [1, 49, 50, 51] rfl rfl ?_
            refine twp_seq ?_
            refine twp_block ?_
            refine twp_rseq ?_
            refine s_a tab_ok rfl ?_
            obtain ⟨e13, he13, hm⟩ := get_inv hm
            refine s_x rfl rfl (x_ix tab_ok rfl rfl rfl rfl he13) ?_
            iterate 3 (refine s_a tab_ok rfl ?_)
            refine tops_nil ?_
            refine w_norm [1, 3, 4, 49, 50, 51] rfl rfl ?_
            refine w_joinM hm (fun x14 => ([(89, .d (.bool (x14)))] : Fr)) (fun x14 => ([] : List (Nat × Blk))) [89] [1, 49, 50, 51] rfl (fun z15 hm => ?_) (fun x14 hm => ?_)
            · refine twp_draw follows  ?_
              iterate 2 (refine d_a [0] tab_ok rfl ?_)
              refine d_b [0] tab_ok rfl (fun q16 hq16 => ?_)
              cases q16
              · replace hm := ite_F hq16 hm
                iterate 2 (refine d_a [0] tab_ok rfl ?_)
                refine d_b [0] tab_ok rfl (fun q17 hq17 => ?_)
                cases q17
                · replace hm := ite_F hq17 hm
                  iterate 14 (refine d_a [0] tab_ok rfl ?_)
                  obtain ⟨e18, he18, hm⟩ := get_inv hm
                  refine d_x [0] rfl rfl (x_ix tab_ok rfl rfl rfl rfl he18) ?_
                  iterate 3 (refine d_a [0] tab_ok rfl ?_)
                  refine d_b [0] tab_ok rfl (fun q19 hq19 => ?_)
                  cases q19
                  · replace hm := ite_F hq19 hm
                    iterate 3 (refine d_a [0] tab_ok rfl ?_)
                    obtain ⟨e20, he20, hm⟩ := get_inv hm
                    refine d_x [0] rfl rfl (x_ix tab_ok rfl rfl rfl rfl he20) ?_
                    iterate 5 (refine d_a [0] tab_ok rfl ?_)
                    refine d_tail ?_ (by kernel_rfl)
                    refine tops_nil ?_
                    refine way_then ?_
                    exact ⟨_, [0], (Option.some.inj hm).symm, rfl, k0, rfl⟩
                  · replace hm := ite_T hq19 hm
                    iterate 9 (refine d_a [0] tab_ok rfl ?_)
                    refine d_tail ?_ (by kernel_rfl)
                    refine tops_nil ?_
                    refine way_then ?_
                    exact ⟨_, [0], (Option.some.inj hm).symm, rfl, k0, rfl⟩
                · replace hm := ite_T hq17 hm
                  iterate 3 (refine d_a [0] tab_ok rfl ?_)
                  obtain ⟨g21, hm⟩ := guard_inv hm
                  refine d_x [0] rfl rfl (x_ar rfl rfl rfl rfl g21) ?_
                  obtain ⟨e22, he22, hm⟩ := get_inv hm
                  refine d_x [0] rfl rfl (x_ix tab_ok rfl rfl rfl rfl he22) ?_
                  iterate 5 (refine d_a [0] tab_ok rfl ?_)
                  refine d_b [0] tab_ok rfl (fun q23 hq23 => ?_)
                  cases q23
                  · replace hm := ite_F hq23 hm
                    iterate 3 (refine d_a [0] tab_ok rfl ?_)
                    obtain ⟨e24, he24, hm⟩ := get_inv hm
                    refine d_x [0] rfl rfl (x_ix tab_ok rfl rfl rfl rfl he24) ?_
                    iterate 3 (refine d_a [0] tab_ok rfl ?_)
                    refine d_b [0] tab_ok rfl (fun q25 hq25 => ?_)
                    cases q25
                    · replace hm := ite_F hq25 hm
                      iterate 3 (refine d_a [0] tab_ok rfl ?_)
                      obtain ⟨e26, he26, hm⟩ := get_inv hm
                      refine d_x [0] rfl rfl (x_ix tab_ok rfl rfl rfl rfl he26) ?_
                      iterate 5 (refine d_a [0] tab_ok rfl ?_)
                      refine d_tail ?_ (by kernel_rfl)
                      refine tops_nil ?_
                      refine way_then ?_
                      exact ⟨_, [0], (Option.some.inj hm).symm, rfl, k0, rfl⟩
                    · replace hm := ite_T hq25 hm
                      iterate 9 (refine d_a [0] tab_ok rfl ?_)
                      refine d_tail ?_ (by kernel_rfl)
                      refine tops_nil ?_
                      refine way_then ?_
                      exact ⟨_, [0], (Option.some.inj hm).symm, rfl, k0, rfl⟩
                  · replace hm := ite_T hq23 hm
                    iterate 17 (refine d_a [0] tab_ok rfl ?_)
                    refine d_tail ?_ (by kernel_rfl)
                    refine tops_nil ?_
                    refine way_then ?_
                    exact ⟨_, [0], (Option.some.inj hm).symm, rfl, k0, rfl⟩
              · replace hm := ite_T hq16 hm
                iterate 31 (refine d_a [0] tab_ok rfl ?_)
                refine d_tail ?_ (by kernel_rfl)
                refine tops_nil ?_
                refine way_then ?_
                exact ⟨_, [0], (Option.some.inj hm).symm, rfl, k0, rfl⟩
            · refine w_norm [1, 49, 50, 51, 89] rfl rfl ?_
              refine twp_cond _ rfl (fun h27 => ?_) (fun h27 => ?_)
              · replace hm := iteB_T h27 hm
                refine twp_rseq ?_
                refine s_a tab_ok rfl ?_
                refine tops_nil ?_
                refine w_norm [2] rfl rfl ?_
                refine twp_ret ?_
                refine way_blockRet ?_
                refine way_thenRet ?_
                obtain ⟨v28, hm, hz⟩ := inr_inv hm
                rw [hz11 _ hz] at hm
                refine way_thenRet ?_
                refine way_blockRet ?_
                obtain ⟨v29, hm, hz⟩ := inr_inv hm
                rw [hz8 _ hz] at hm
                refine way_thenRet ?_
                obtain rfl := Option.some.inj hm
                exact EndsS.one _ rfl (.d _) (.refl _)
              · replace hm := iteB_F h27 hm
                refine twp_skip ?_
                refine way_block ?_
                refine way_then ?_
                refine w_norm [1, 49, 50, 51] rfl rfl ?_
                refine twp_region ?_
                obtain ⟨g30, hm⟩ := guard_inv hm
                refine s_x rfl rfl (x_ar rfl rfl rfl rfl g30) ?_
                refine s_a tab_ok rfl ?_
                refine tops_nil ?_
                refine way_then ?_
                exact ⟨_, [0], (Option.some.inj hm).symm, rfl, k0, rfl⟩
          · replace hm := ite_F h12 hm
            refine twp_exit ?_
            refine way_thenExit ?_
            obtain ⟨v31, hm, hz⟩ := inr_inv hm
            rw [hz11 _ hz] at hm
            refine way_thenExit ?_
            refine way_here ?_
            refine way_then ?_
            exact ⟨_, [0], (Option.some.inj hm).symm, rfl, k0, rfl⟩
        · refine w_norm [1] rfl rfl ?_
          refine w_joinS hm (fun _ => ([] : Fr)) (fun _ => ([] : List (Nat × Blk))) [] [1] rfl (fun z32 hm hz32 => ?_) (fun j hm => ?_)
          · refine twp_rseq ?_
            iterate 2 (refine s_a tab_ok rfl ?_)
            refine s_x rfl rfl (x_len tab_ok rfl rfl rfl) ?_
            refine s_a tab_ok rfl ?_
            refine tops_nil ?_
            refine w_norm [1, 92, 93, 94] rfl rfl ?_
            refine twp_block ?_
            refine w_loop hm (fun x34 => ([(94, .d (.int .i64 x34))] : Fr)) (fun x34 => ([] : List (Nat × Blk))) [94] [1, 92, 93] [0] rfl k0 rfl rfl rfl rfl rfl (fun x34 z35 hm hz35 => ?_)
            refine w_norm [1, 92, 93, 94] rfl rfl ?_
            refine twp_rseq ?_
            refine s_a tab_ok rfl ?_
            refine tops_nil ?_
            refine w_norm [1, 92, 93, 94, 95] rfl rfl ?_
            refine twp_seq ?_
            refine twp_cond _ rfl (fun h36 => ?_) (fun h36 => ?_)
            · replace hm := ite_T h36 hm
              refine twp_skip ?_
              refine way_then ?_
              refine w_norm [1, 92, 93, 94] rfl rfl ?_
              refine twp_seq ?_
              refine twp_block ?_
              refine twp_rseq ?_
              obtain ⟨e37, he37, hm⟩ := get_inv hm
              refine s_x rfl rfl (x_ix tab_ok rfl rfl rfl rfl he37) ?_
              refine s_a tab_ok rfl ?_
              refine s_al 1 rfl rfl zero55 rfl ?_
              refine s_wkb 1 [none, none, none, some 3, some 2, some 1, none, none, some 3, some 2, some 1, some 2, some 1, some 2] rfl rfl ?_
              refine s_a tab_ok rfl ?_
              refine tops_nil ?_
              refine w_norm [1, 6, 92, 93, 94] rfl rfl ?_
              refine w_joinM hm (fun x38 => ([(122, .d (.bool (x38)))] : Fr)) (fun x38 => ([] : List (Nat × Blk))) [122] [1, 92, 93, 94] rfl (fun z39 hm => ?_) (fun x38 hm => ?_)
              · refine twp_region ?_
                iterate 2 (refine s_a tab_ok rfl ?_)
                obtain ⟨r40, hr40, hm⟩ := bind_inv hm
                refine s_x rfl rfl (rd_callRN rfl rfl (snaps_cons (.d _) (snaps_cons (.d _) snaps_nil)) (ref16_right_c hr40)) ?_
                refine s_a tab_ok rfl ?_
                refine s_b tab_ok rfl (fun q41 hq41 => ?_)
                cases q41
                · replace hm := iteB_F hq41 hm
                  iterate 3 (refine s_a tab_ok rfl ?_)
                  obtain ⟨r42, hr42, hm⟩ := bind_inv hm
                  refine s_x rfl rfl (rd_callRN rfl rfl (snaps_cons (.d _) (snaps_cons (.d _) snaps_nil)) (ref16_settings_c hr42)) ?_
                  iterate 2 (refine s_a tab_ok rfl ?_)
                  refine s_b tab_ok rfl (fun q43 hq43 => ?_)
                  cases q43
                  · replace hm := iteB_F hq43 hm
                    iterate 3 (refine s_a tab_ok rfl ?_)
                    obtain ⟨r44, hr44, hm⟩ := bind_inv hm
                    refine s_x rfl rfl (rd_callRN rfl rfl (snaps_cons (.d _) (snaps_cons (.d _) snaps_nil)) (ref16_settings_c hr44)) ?_
                    iterate 2 (refine s_a tab_ok rfl ?_)
                    refine s_b tab_ok rfl (fun q45 hq45 => ?_)
                    cases q45
                    · replace hm := iteB_F hq45 hm
                      iterate 3 (refine s_a tab_ok rfl ?_)
                      obtain ⟨r46, hr46, hm⟩ := bind_inv hm
                      refine s_x rfl rfl (rd_callRN rfl rfl (snaps_cons (.d _) (snaps_cons (.d _) snaps_nil)) (ref16_settings_c hr46)) ?_
                      iterate 2 (refine s_a tab_ok rfl ?_)
                      refine tops_nil ?_
                      refine way_then ?_
                      exact ⟨_, [0, 1], (Option.some.inj hm).symm, rfl, k0, rfl⟩
                    · replace hm := iteB_T hq45 hm
                      iterate 6 (refine s_a tab_ok rfl ?_)
                      refine tops_nil ?_
                      refine way_then ?_
                      exact ⟨_, [0, 1], (Option.some.inj hm).symm, rfl, k0, rfl⟩
                  · replace hm := iteB_T hq43 hm
                    iterate 13 (refine s_a tab_ok rfl ?_)
                    refine tops_nil ?_
                    refine way_then ?_
                    exact ⟨_, [0, 1], (Option.some.inj hm).symm, rfl, k0, rfl⟩
                · replace hm := iteB_T hq41 hm
                  iterate 20 (refine s_a tab_ok rfl ?_)
                  refine tops_nil ?_
                  refine way_then ?_
                  exact ⟨_, [0, 1], (Option.some.inj hm).symm, rfl, k0, rfl⟩
              · refine w_norm [1, 92, 93, 94, 122] rfl rfl ?_
                refine twp_cond _ rfl (fun h47 => ?_) (fun h47 => ?_)
                · replace hm := iteB_T h47 hm
                  refine twp_rseq ?_
                  refine s_a tab_ok rfl ?_
                  refine tops_nil ?_
                  refine w_norm [2] rfl rfl ?_
                  refine twp_ret ?_
                  refine way_blockRet ?_
                  refine way_thenRet ?_
                  obtain ⟨v48, hm, hz⟩ := inr_inv hm
                  rw [hz35 _ hz] at hm
                  refine way_thenRet ?_
                  refine way_blockRet ?_
                  obtain ⟨v49, hm, hz⟩ := inr_inv hm
                  rw [hz32 _ hz] at hm
                  refine way_thenRet ?_
                  obtain rfl := Option.some.inj hm
                  exact EndsS.one _ rfl (.d _) (.refl _)
                · replace hm := iteB_F h47 hm
                  refine twp_skip ?_
                  refine way_block ?_
                  refine way_then ?_
                  refine w_norm [1, 92, 93, 94] rfl rfl ?_
                  refine twp_region ?_
                  obtain ⟨g50, hm⟩ := guard_inv hm
                  refine s_x rfl rfl (x_ar rfl rfl rfl rfl g50) ?_
                  refine s_a tab_ok rfl ?_
                  refine tops_nil ?_
                  refine way_then ?_
                  exact ⟨_, [0], (Option.some.inj hm).symm, rfl, k0, rfl⟩
            · replace hm := ite_F h36 hm
              refine twp_exit ?_
              refine way_thenExit ?_
              obtain ⟨v51, hm, hz⟩ := inr_inv hm
              rw [hz35 _ hz] at hm
              refine way_thenExit ?_
              refine way_here ?_
              refine way_then ?_
              exact ⟨_, [0], (Option.some.inj hm).symm, rfl, k0, rfl⟩
          · refine w_norm [1] rfl rfl ?_
            refine w_joinS hm (fun _ => ([] : Fr)) (fun _ => ([] : List (Nat × Blk))) [] [1] rfl (fun z52 hm hz52 => ?_) (fun j hm => ?_)
            · refine twp_rseq ?_
              iterate 2 (refine s_a tab_ok rfl ?_)
              refine s_x rfl rfl (x_len tab_ok rfl rfl rfl) ?_
              refine s_a tab_ok rfl ?_
              refine tops_nil ?_
              refine w_norm [1, 125, 126, 127] rfl rfl ?_
              refine twp_block ?_
              refine w_loop hm (fun x54 => ([(127, .d (.int .i64 x54))] : Fr)) (fun x54 => ([] : List (Nat × Blk))) [127] [1, 125, 126] [0] rfl k0 rfl rfl rfl rfl rfl (fun x54 z55 hm hz55 => ?_)
              refine w_norm [1, 125, 126, 127] rfl rfl ?_
              refine twp_rseq ?_
              refine s_a tab_ok rfl ?_
              refine tops_nil ?_
              refine w_norm [1, 125, 126, 127, 128] rfl rfl ?_
              refine twp_seq ?_
              refine twp_cond _ rfl (fun h56 => ?_) (fun h56 => ?_)
              · replace hm := ite_T h56 hm
                refine twp_skip ?_
                refine way_then ?_
                refine w_norm [1, 125, 126, 127] rfl rfl ?_
                refine twp_seq ?_
                refine twp_block ?_
                refine twp_rseq ?_
                obtain ⟨e57, he57, hm⟩ := get_inv hm
                refine s_x rfl rfl (x_ix tab_ok rfl rfl rfl rfl he57) ?_
                refine s_a tab_ok rfl ?_
                refine s_al 1 rfl rfl zero55 rfl ?_
                refine s_wkb 1 [none, none, none, some 3, some 2, some 1, none, none, some 3, some 2, some 1, some 2, some 1, some 2] rfl rfl ?_
                refine s_a tab_ok rfl ?_
                refine tops_nil ?_
                refine w_norm [1, 8, 125, 126, 127] rfl rfl ?_
                refine w_joinM hm (fun x58 => ([(152, .d (.bool (x58)))] : Fr)) (fun x58 => ([] : List (Nat × Blk))) [152] [1, 125, 126, 127] rfl (fun z59 hm => ?_) (fun x58 hm => ?_)
                · refine twp_region ?_
                  iterate 4 (refine s_a tab_ok rfl ?_)
                  obtain ⟨r60, hr60, hm⟩ := bind_inv hm
                  refine s_x rfl rfl (rd_callRN rfl rfl (snaps_cons (.d _) (snaps_cons (.d _) snaps_nil)) (ref16_agree_c hr60)) ?_
                  refine s_a tab_ok rfl ?_
                  refine s_b tab_ok rfl (fun q61 hq61 => ?_)
                  cases q61
                  · replace hm := iteB_F hq61 hm
                    iterate 4 (refine s_a tab_ok rfl ?_)
                    obtain ⟨r62, hr62, hm⟩ := bind_inv hm
                    refine s_x rfl rfl (rd_callRN rfl rfl (snaps_cons (.d _) (snaps_cons (.d _) snaps_nil)) (ref16_agree_c hr62)) ?_
                    iterate 2 (refine s_a tab_ok rfl ?_)
                    refine s_b tab_ok rfl (fun q63 hq63 => ?_)
                    cases q63
                    · replace hm := iteB_F hq63 hm
                      iterate 4 (refine s_a tab_ok rfl ?_)
                      obtain ⟨r64, hr64, hm⟩ := bind_inv hm
                      refine s_x rfl rfl (rd_callRN rfl rfl (snaps_cons (.d _) (snaps_cons (.d _) snaps_nil)) (ref16_agree_c hr64)) ?_
                      iterate 2 (refine s_a tab_ok rfl ?_)
                      refine tops_nil ?_
                      refine way_then ?_
                      exact ⟨_, [0, 1], (Option.some.inj hm).symm, rfl, k0, rfl⟩
                    · replace hm := iteB_T hq63 hm
                      iterate 7 (refine s_a tab_ok rfl ?_)
                      refine tops_nil ?_
                      refine way_then ?_
                      exact ⟨_, [0, 1], (Option.some.inj hm).symm, rfl, k0, rfl⟩
                  · replace hm := iteB_T hq61 hm
                    iterate 15 (refine s_a tab_ok rfl ?_)
                    refine tops_nil ?_
                    refine way_then ?_
                    exact ⟨_, [0, 1], (Option.some.inj hm).symm, rfl, k0, rfl⟩
                · refine w_norm [1, 125, 126, 127, 152] rfl rfl ?_
                  refine twp_cond _ rfl (fun h65 => ?_) (fun h65 => ?_)
                  · replace hm := iteB_T h65 hm
                    refine twp_rseq ?_
                    refine s_a tab_ok rfl ?_
                    refine tops_nil ?_
                    refine w_norm [2] rfl rfl ?_
                    refine twp_ret ?_
                    refine way_blockRet ?_
                    refine way_thenRet ?_
                    obtain ⟨v66, hm, hz⟩ := inr_inv hm
                    rw [hz55 _ hz] at hm
                    refine way_thenRet ?_
                    refine way_blockRet ?_
                    obtain ⟨v67, hm, hz⟩ := inr_inv hm
                    rw [hz52 _ hz] at hm
                    refine way_thenRet ?_
                    obtain rfl := Option.some.inj hm
                    exact EndsS.one _ rfl (.d _) (.refl _)
                  · replace hm := iteB_F h65 hm
                    refine twp_skip ?_
                    refine way_block ?_
                    refine way_then ?_
                    refine w_norm [1, 125, 126, 127] rfl rfl ?_
                    refine twp_region ?_
                    obtain ⟨g68, hm⟩ := guard_inv hm
                    refine s_x rfl rfl (x_ar rfl rfl rfl rfl g68) ?_
                    refine s_a tab_ok rfl ?_
                    refine tops_nil ?_
                    refine way_then ?_
                    exact ⟨_, [0], (Option.some.inj hm).symm, rfl, k0, rfl⟩
              · replace hm := ite_F h56 hm
                refine twp_exit ?_
                refine way_thenExit ?_
                obtain ⟨v69, hm, hz⟩ := inr_inv hm
                rw [hz55 _ hz] at hm
                refine way_thenExit ?_
                refine way_here ?_
                refine way_then ?_
                exact ⟨_, [0], (Option.some.inj hm).symm, rfl, k0, rfl⟩
            · refine w_norm [1] rfl rfl ?_
              refine w_joinS hm (fun _ => ([] : Fr)) (fun _ => ([] : List (Nat × Blk))) [] [] rfl (fun z70 hm hz70 => ?_) (fun j hm => ?_)
              · refine twp_rseq ?_
                iterate 2 (refine s_a tab_ok rfl ?_)
                refine s_x rfl rfl (x_len tab_ok rfl rfl rfl) ?_
                refine s_a tab_ok rfl ?_
                refine tops_nil ?_
                refine w_norm [1, 155, 156, 157] rfl rfl ?_
                refine twp_block ?_
                refine w_loop hm (fun x72 => ([(157, .d (.int .i64 x72))] : Fr)) (fun x72 => ([] : List (Nat × Blk))) [157] [1, 155, 156] [0] rfl k0 rfl rfl rfl rfl rfl (fun x72 z73 hm hz73 => ?_)
                refine w_norm [1, 155, 156, 157] rfl rfl ?_
                refine twp_rseq ?_
                refine s_a tab_ok rfl ?_
                refine tops_nil ?_
                refine w_norm [1, 155, 156, 157, 158] rfl rfl ?_
                refine twp_seq ?_
                refine twp_cond _ rfl (fun h74 => ?_) (fun h74 => ?_)
                · replace hm := ite_T h74 hm
                  refine twp_skip ?_
                  refine way_then ?_
                  refine w_norm [1, 155, 156, 157] rfl rfl ?_
                  refine twp_seq ?_
                  refine twp_block ?_
                  refine twp_rseq ?_
                  refine s_a tab_ok rfl ?_
                  obtain ⟨e75, he75, hm⟩ := get_inv hm
                  refine s_x rfl rfl (x_ix tab_ok rfl rfl rfl rfl he75) ?_
                  refine s_a tab_ok rfl ?_
                  refine s_al 1 rfl rfl zero55 rfl ?_
                  refine s_wkb 1 [none, none, none, some 3, some 2, some 1, none, none, some 3, some 2, some 1, some 2, some 1, some 2] rfl rfl ?_
                  iterate 2 (refine s_a tab_ok rfl ?_)
                  refine tops_nil ?_
                  refine w_norm [1, 9, 10, 155, 156, 157] rfl rfl ?_
                  refine twp_rseq ?_
                  iterate 3 (refine s_a tab_ok rfl ?_)
                  obtain ⟨r76, hr76, hm⟩ := bind_inv hm
                  refine s_x rfl rfl (rd_callRN rfl rfl (snaps_cons (.d _) (snaps_cons (.d _) snaps_nil)) (ref16_Find_c hr76)) ?_
                  iterate 2 (refine s_a tab_ok rfl ?_)
                  refine tops_nil ?_
                  refine w_norm [1, 155, 156, 157, 167] rfl rfl ?_
                  refine twp_cond _ rfl (fun h77 => ?_) (fun h77 => ?_)
                  · replace hm := iteN_T h77 hm
                    refine twp_rseq ?_
                    refine s_a tab_ok rfl ?_
                    refine tops_nil ?_
                    refine w_norm [2] rfl rfl ?_
                    refine twp_ret ?_
                    refine way_blockRet ?_
                    refine way_thenRet ?_
                    obtain ⟨v78, hm, hz⟩ := inr_inv hm
                    rw [hz73 _ hz] at hm
                    refine way_thenRet ?_
                    refine way_blockRet ?_
                    obtain ⟨v79, hm, hz⟩ := inr_inv hm
                    rw [hz70 _ hz] at hm
                    refine way_thenRet ?_
                    obtain rfl := Option.some.inj hm
                    exact EndsS.one _ rfl (.d _) (.refl _)
                  · replace hm := iteN_F h77 hm
                    refine twp_skip ?_
                    refine way_block ?_
                    refine way_then ?_
                    refine w_norm [1, 155, 156, 157] rfl rfl ?_
                    refine twp_region ?_
                    obtain ⟨g80, hm⟩ := guard_inv hm
                    refine s_x rfl rfl (x_ar rfl rfl rfl rfl g80) ?_
                    refine s_a tab_ok rfl ?_
                    refine tops_nil ?_
                    refine way_then ?_
                    exact ⟨_, [0], (Option.some.inj hm).symm, rfl, k0, rfl⟩
                · replace hm := ite_F h74 hm
                  refine twp_exit ?_
                  refine way_thenExit ?_
                  obtain ⟨v81, hm, hz⟩ := inr_inv hm
                  rw [hz73 _ hz] at hm
                  refine way_thenExit ?_
                  refine way_here ?_
                  refine way_then ?_
                  exact ⟨_, [0], (Option.some.inj hm).symm, rfl, k0, rfl⟩
              · refine w_norm [] rfl rfl ?_
                refine twp_rseq ?_
                refine s_a tab_ok rfl ?_
                refine tops_nil ?_
                refine w_norm [2] rfl rfl ?_
                refine twp_ret ?_
                obtain rfl := Option.some.inj hm
                exact EndsS.one _ rfl (.d _) (.refl _)

end Go.Proofs.Ythkgkolgdkcngaa

set_option maxHeartbeats 400000
set_option linter.unusedSimpArgs false
set_option linter.unusedVariables false
set_option maxRecDepth 20000
namespace Go.Proofs.Ythkgkolgdkcngaa
open Go Go.TL

theorem law42_PossessionFree_w {p0 : Table} {p1 : Inter} {p2 : (List Possession)} {p3 : Possession} {r : Bool} (hm : law42_PossessionFree p0 p1 p2 p3 = some r) : Ret Try.prog 5 [] (fun _ => false) ([p0.enc, p1.enc, .sl 4 (p2.map Possession.enc), p3.enc].map .d) (.d (.bool (r))) [] := by
  refine ret_bodyS callB5 Try.func5 rfl Try.ntmps5 rfl rfl (fun wX gX => ?_)
  unfold law42_PossessionFree at hm
  refine w_norm [0, 1, 2, 3] rfl rfl ?_
  refine twp_rseq ?_
  refine s_bx 0 rfl rfl rfl ?_
  refine s_bx 1 rfl rfl rfl ?_
  refine s_bx 2 rfl rfl rfl ?_
  refine s_a tab_ok rfl ?_
  refine tops_nil ?_
  refine w_norm [2, 4, 5, 7] rfl rfl ?_
  refine twp_seq ?_
  refine twp_rseq ?_
  iterate 3 (refine s_a tab_ok rfl ?_)
  obtain ⟨r1, hr1, hm⟩ := bind_inv hm
  refine s_x rfl rfl (rd_callRN rfl rfl (snaps_cons (.d _) (snaps_cons (.d _) (snaps_cons (.d _) snaps_nil))) (law42_small_c hr1)) ?_
  refine s_a tab_ok rfl ?_
  refine tops_nil ?_
  refine w_norm [2, 4, 5, 7, 18] rfl rfl ?_
  refine twp_cond _ rfl (fun h2 => ?_) (fun h2 => ?_)
  · replace hm := iteB_T h2 hm
    refine twp_rseq ?_
    obtain ⟨r3, hr3, hm⟩ := bind_inv hm
    refine s_x rfl rfl (rd_callRN rfl rfl snaps_nil (law42_alive_c hr3)) ?_
    refine s_a tab_ok rfl ?_
    refine tops_nil ?_
    refine w_norm [8] rfl rfl ?_
    refine twp_ret ?_
    refine way_thenRet ?_
    obtain rfl := Option.some.inj hm
    exact EndsS.one _ rfl (.d _) (.refl _)
  · replace hm := iteB_F h2 hm
    refine twp_skip ?_
    refine way_then ?_
    refine w_norm [2, 4, 5, 7] rfl rfl ?_
    refine twp_seq ?_
    refine twp_rseq ?_
    iterate 4 (refine s_a tab_ok rfl ?_)
    obtain ⟨r4, hr4, hm⟩ := bind_inv hm
    obtain ⟨r5, r6⟩ := r4
    refine s_x rfl rfl (x_callT rfl rfl rfl (possession_Take_c hr4)) ?_
    iterate 5 (refine s_a tab_ok rfl ?_)
    refine tops_nil ?_
    refine w_norm [4, 5, 7, 10] rfl rfl ?_
    refine twp_rseq ?_
    iterate 2 (refine s_a tab_ok rfl ?_)
    refine tops_nil ?_
    refine w_norm [4, 5, 7, 10, 29] rfl rfl ?_
    refine twp_cond _ rfl (fun h7 => ?_) (fun h7 => ?_)
    · replace hm := iteN_T h7 hm
      refine w_joinM hm (fun x8 => ([(8, .d (.bool (x8)))] : Fr)) (fun x8 => ([] : List (Nat × Blk))) [8] [] rfl (fun z9 hm => ?_) (fun x8 hm => ?_)
      · refine twp_region ?_
        iterate 2 (refine s_a tab_ok rfl ?_)
        refine s_b tab_ok rfl (fun q10 hq10 => ?_)
        cases q10
        · replace hm := ite_F hq10 hm
          iterate 3 (refine s_a tab_ok rfl ?_)
          refine s_b tab_ok rfl (fun q11 hq11 => ?_)
          cases q11
          · replace hm := ite_F hq11 hm
            iterate 3 (refine s_a tab_ok rfl ?_)
            refine s_b tab_ok rfl (fun q12 hq12 => ?_)
            cases q12
            · replace hm := ite_F hq12 hm
              iterate 3 (refine s_a tab_ok rfl ?_)
              refine s_b tab_ok rfl (fun q13 hq13 => ?_)
              cases q13
              · replace hm := ite_F hq13 hm
                iterate 3 (refine s_a tab_ok rfl ?_)
                refine tops_nil ?_
                refine way_then ?_
                exact ⟨_, [0, 1, 2], (Option.some.inj hm).symm, rfl, k0, rfl⟩
              · replace hm := ite_T hq13 hm
                obtain ⟨r14, hr14, hm⟩ := bind_inv hm
                refine s_x rfl rfl (rd_callRN rfl rfl snaps_nil (law42_alive_c hr14)) ?_
                iterate 2 (refine s_a tab_ok rfl ?_)
                refine tops_nil ?_
                refine way_then ?_
                exact ⟨_, [0, 1, 2], (Option.some.inj hm).symm, rfl, k0, rfl⟩
            · replace hm := ite_T hq12 hm
              iterate 4 (refine s_a tab_ok rfl ?_)
              obtain ⟨r15, hr15, hm⟩ := bind_inv hm
              refine s_x rfl rfl (rd_callRN rfl rfl snaps_nil (law42_alive_c hr15)) ?_
              iterate 2 (refine s_a tab_ok rfl ?_)
              refine tops_nil ?_
              refine way_then ?_
              exact ⟨_, [0, 1, 2], (Option.some.inj hm).symm, rfl, k0, rfl⟩
          · replace hm := ite_T hq11 hm
            iterate 8 (refine s_a tab_ok rfl ?_)
            obtain ⟨r16, hr16, hm⟩ := bind_inv hm
            refine s_x rfl rfl (rd_callRN rfl rfl snaps_nil (law42_alive_c hr16)) ?_
            iterate 2 (refine s_a tab_ok rfl ?_)
            refine tops_nil ?_
            refine way_then ?_
            exact ⟨_, [0, 1, 2], (Option.some.inj hm).symm, rfl, k0, rfl⟩
        · replace hm := ite_T hq10 hm
          iterate 12 (refine s_a tab_ok rfl ?_)
          obtain ⟨r17, hr17, hm⟩ := bind_inv hm
          refine s_x rfl rfl (rd_callRN rfl rfl snaps_nil (law42_alive_c hr17)) ?_
          iterate 2 (refine s_a tab_ok rfl ?_)
          refine tops_nil ?_
          refine way_then ?_
          exact ⟨_, [0, 1, 2], (Option.some.inj hm).symm, rfl, k0, rfl⟩
      · refine w_norm [8] rfl rfl ?_
        refine twp_ret ?_
        refine way_thenRet ?_
        obtain rfl := Option.some.inj hm
        exact EndsS.one _ rfl (.d _) (.refl _)
    · replace hm := iteN_F h7 hm
      refine twp_skip ?_
      refine way_then ?_
      refine w_norm [4, 5, 7] rfl rfl ?_
      refine w_joinS hm (fun _ => ([] : Fr)) (fun _ => ([] : List (Nat × Blk))) [] [] rfl (fun z18 hm hz18 => ?_) (fun j hm => ?_)
      · refine twp_rseq ?_
        iterate 2 (refine s_a tab_ok rfl ?_)
        refine s_x rfl rfl (x_len tab_ok rfl rfl rfl) ?_
        refine s_a tab_ok rfl ?_
        refine tops_nil ?_
        refine w_norm [4, 5, 7, 49, 50] rfl rfl ?_
        refine twp_block ?_
        refine w_loop hm (fun x20 => ([(50, .d (.int .i64 x20))] : Fr)) (fun x20 => ([] : List (Nat × Blk))) [50] [4, 5, 7, 49] [0, 1, 2] rfl k0 rfl rfl rfl rfl rfl (fun x20 z21 hm hz21 => ?_)
        refine w_norm [4, 5, 7, 49, 50] rfl rfl ?_
        refine twp_rseq ?_
        refine s_a tab_ok rfl ?_
        refine tops_nil ?_
        refine w_norm [4, 5, 7, 49, 50, 51] rfl rfl ?_
        refine twp_seq ?_
        refine twp_cond _ rfl (fun h22 => ?_) (fun h22 => ?_)
        · replace hm := ite_T h22 hm
          refine twp_skip ?_
          refine way_then ?_
          refine w_norm [4, 5, 7, 49, 50] rfl rfl ?_
          refine w_joinS hm (fun _ => ([] : Fr)) (fun _ => ([] : List (Nat × Blk))) [] [4, 5, 7, 49, 50] rfl (fun z23 hm hz23 => ?_) (fun j hm => ?_)
          · refine twp_block ?_
            refine twp_rseq ?_
            iterate 2 (refine s_a tab_ok rfl ?_)
            refine tops_nil ?_
            refine w_norm [4, 5, 7, 11, 49, 50] rfl rfl ?_
            refine twp_hole ?_
            refine twp_hole ?_
            refine twp_dseq follows  ?_
            refine d_x [] rfl rfl (x_lit0 tab_ok rfl rfl zero3 rfl) ?_
            refine d_a [0] tab_ok rfl ?_
            refine d_a [1] tab_ok rfl ?_
            refine d_a [] tab_ok rfl ?_
            obtain ⟨r24, hr24, hm⟩ := bind_inv hm
            refine d_x [] rfl rfl (rd_callRD rfl rfl rfl (locks_Path_c hr24)) ?_
            obtain ⟨g25, hm⟩ := guard_inv hm
            refine d_wr [3] _ (.msl 3 1 0 (([] : List Int) ++ r24).length) rfl (onE_A rfl) rfl (w_appN (f := (D.int .i64)) (([] : List Int) ++ r24) rfl rfl tab_ok rfl zero3 rfl rfl rfl rfl src_d g25) ?_
            refine d_a [0] tab_ok rfl ?_
            refine d_a [1] tab_ok rfl ?_
            refine d_a [] tab_ok rfl ?_
            obtain ⟨r26, hr26, hm⟩ := bind_inv hm
            refine d_x [] rfl rfl (rd_callRD rfl rfl rfl (locks_Over_c hr26)) ?_
            obtain ⟨g27, hm⟩ := guard_inv hm
            refine d_wr [3, 4] _ (.msl 4 1 0 ((([] : List Int) ++ r24) ++ r26).length) rfl (onE_A rfl) rfl (w_appD (f := (D.int .i64)) (xs := (([] : List Int) ++ r24)) r26 rfl rfl tab_ok rfl zero3 rfl rfl rfl rfl rfl rfl src_d g27) ?_
            iterate 2 (refine d_a [] tab_ok rfl ?_)
            refine d_tail ?_ (by kernel_rfl)
            refine tops_nil ?_
            refine w_norm [4, 5, 7, 49, 50, 63, 64, 65] rfl rfl ?_
            refine twp_block ?_
            refine w_loop hm (fun x29 => ([(63, .msl 3 1 0 ((([] : List Int) ++ r24) ++ r26).length), (65, .d (.int .i64 x29))] : Fr)) (fun x29 => ([] : List (Nat × Blk))) [63, 65] [4, 5, 7, 49, 50, 64] [0, 1, 2, 4] rfl k0 rfl rfl rfl rfl rfl (fun x29 z30 hm hz30 => ?_)
            refine w_norm [4, 5, 7, 49, 50, 63, 64, 65] rfl rfl ?_
            refine twp_rseq ?_
            refine s_a tab_ok rfl ?_
            refine tops_nil ?_
            refine w_norm [4, 5, 7, 49, 50, 63, 64, 65, 66] rfl rfl ?_
            refine twp_seq ?_
            refine twp_cond _ rfl (fun h31 => ?_) (fun h31 => ?_)
            · replace hm := ite_T h31 hm
              refine twp_skip ?_
              refine way_then ?_
              refine w_norm [4, 5, 7, 49, 50, 63, 64, 65] rfl rfl ?_
              refine twp_seq ?_
              refine twp_block ?_
              refine twp_rseq ?_
              obtain ⟨e32, he32, hm⟩ := get_inv hm
              refine s_x rfl rfl (x_ixo tab_ok rfl rfl rfl rfl he32 rfl) ?_
              refine s_x rfl rfl (x_ldo tab_ok rfl rfl rfl rfl he32.2 rfl) ?_
              refine s_a tab_ok rfl ?_
              refine tops_nil ?_
              refine w_norm [4, 5, 7, 13, 49, 50, 63, 64, 65] rfl rfl ?_
              refine twp_rseq ?_
              iterate 4 (refine s_a tab_ok rfl ?_)
              refine tops_nil ?_
              refine w_norm [4, 5, 7, 49, 50, 63, 64, 65, 72] rfl rfl ?_
              refine twp_cond _ rfl (fun h33 => ?_) (fun h33 => ?_)
              · replace hm := ite_T h33 hm
                refine twp_rseq ?_
                refine s_a tab_ok rfl ?_
                refine tops_nil ?_
                refine w_norm [8] rfl rfl ?_
                refine twp_ret ?_
                refine way_blockRet ?_
                refine way_thenRet ?_
                obtain ⟨v34, hm, hz⟩ := inr_inv hm
                rw [hz30 _ hz] at hm
                refine way_thenRet ?_
                refine way_blockRet ?_
                refine way_blockRet ?_
                obtain ⟨v35, hm, hz⟩ := inr_inv hm
                rw [hz23 _ hz] at hm
                refine way_thenRet ?_
                obtain ⟨v36, hm, hz⟩ := inr_inv hm
                rw [hz21 _ hz] at hm
                refine way_thenRet ?_
                refine way_blockRet ?_
                obtain ⟨v37, hm, hz⟩ := inr_inv hm
                rw [hz18 _ hz] at hm
                refine way_thenRet ?_
                obtain rfl := Option.some.inj hm
                exact EndsS.one _ rfl (.d _) (.refl _)
              · replace hm := ite_F h33 hm
                refine twp_skip ?_
                refine way_block ?_
                refine way_then ?_
                refine w_norm [4, 5, 7, 49, 50, 63, 64, 65] rfl rfl ?_
                refine twp_region ?_
                obtain ⟨g38, hm⟩ := guard_inv hm
                refine s_x rfl rfl (x_ar rfl rfl rfl rfl g38) ?_
                refine s_a tab_ok rfl ?_
                refine tops_nil ?_
                refine way_then ?_
                exact ⟨_, [0, 1, 2, 3], (Option.some.inj hm).symm, rfl, k0, rfl⟩
            · replace hm := ite_F h31 hm
              refine twp_exit ?_
              refine way_thenExit ?_
              obtain ⟨v39, hm, hz⟩ := inr_inv hm
              rw [hz30 _ hz] at hm
              refine way_thenExit ?_
              refine way_here ?_
              refine way_block ?_
              refine way_then ?_
              exact ⟨_, [0, 1, 2], (Option.some.inj hm).symm, rfl, k0, rfl⟩
          · refine w_norm [4, 5, 7, 49, 50] rfl rfl ?_
            refine twp_region ?_
            obtain ⟨g40, hm⟩ := guard_inv hm
            refine s_x rfl rfl (x_ar rfl rfl rfl rfl g40) ?_
            refine s_a tab_ok rfl ?_
            refine tops_nil ?_
            refine way_then ?_
            exact ⟨_, [0, 1, 2], (Option.some.inj hm).symm, rfl, k0, rfl⟩
        · replace hm := ite_F h22 hm
          refine twp_exit ?_
          refine way_thenExit ?_
          obtain ⟨v41, hm, hz⟩ := inr_inv hm
          rw [hz21 _ hz] at hm
          refine way_thenExit ?_
          refine way_here ?_
          refine way_then ?_
          exact ⟨_, [0, 1, 2], (Option.some.inj hm).symm, rfl, k0, rfl⟩
      · refine w_norm [] rfl rfl ?_
        refine twp_rseq ?_
        obtain ⟨r42, hr42, hm⟩ := bind_inv hm
        refine s_x rfl rfl (rd_callRN rfl rfl snaps_nil (law42_alive_c hr42)) ?_
        refine s_a tab_ok rfl ?_
        refine tops_nil ?_
        refine w_norm [8] rfl rfl ?_
        refine twp_ret ?_
        obtain rfl := Option.some.inj hm
        exact EndsS.one _ rfl (.d _) (.refl _)

end Go.Proofs.Ythkgkolgdkcngaa
