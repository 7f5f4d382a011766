/- Texts of this proof, joined, without what it does not use. No condition. -/
import Derived.Shelf.SlSortCmp.NoneTotal
import Derived.Shelf.Slices.CompactI
import Derived.Shelf.Slices.In.SortNone
import Derived.Shelf.Sort.Plain
import Derived.Test.YtdhicpmpefkojaaGreatQn

set_option maxHeartbeats 8000000
set_option linter.unusedSimpArgs false
set_option linter.unusedVariables false
set_option maxRecDepth 20000
namespace Go.Proofs.YtdhicpmpefkojaaGreat
open Go Go.TL Go.Sort Go.Shelf Go.RowKit Go.Lib

def sortI49_ren : Go.Shelf.Ren := ⟨fun | 189 => 49 | 125 => 93 | 257 => 92 | 128 => 126 | 129 => 127 | 294 => 117 | 295 => 118 | 296 => 119 | 297 => 120 | 298 => 121 | 299 => 122 | 216 => 123 | 300 => 124 | 301 => 125 | 328 => 135 | 329 => 136 | 330 => 137 | 331 => 138 | 332 => 139 | 215 => 131 | 343 => 149 | n => n, fun | 28 => 23 | 3 => 3 | 46 => 115 | 0 => 0 | 51 => 141 | 53 => 143 | 4 => 4 | 183 => 134 | 182 => 133 | 131 => 138 | 5 => 5 | 9 => 9 | 218 => 148 | 222 => 152 | 228 => 159 | 229 => 160 | n => n, fun | n => n⟩
theorem sortI49 : Go.Proofs.Lays.n189 Tryz.prog sortI49_ren where
 mixed := by kernel_rfl
 f125 := Tryz.func93.trans (congrArg some (by kernel_rfl))
 f128 := Tryz.func126.trans (congrArg some (by kernel_rfl))
 f129 := Tryz.func127.trans (congrArg some (by kernel_rfl))
 f189 := Tryz.func49.trans (congrArg some (by kernel_rfl))
 f215 := Tryz.func131.trans (congrArg some (by kernel_rfl))
 f216 := Tryz.func123.trans (congrArg some (by kernel_rfl))
 f257 := Tryz.func92.trans (congrArg some (by kernel_rfl))
 f294 := Tryz.func117.trans (congrArg some (by kernel_rfl))
 f295 := Tryz.func118.trans (congrArg some (by kernel_rfl))
 f296 := Tryz.func119.trans (congrArg some (by kernel_rfl))
 f297 := Tryz.func120.trans (congrArg some (by kernel_rfl))
 f298 := Tryz.func121.trans (congrArg some (by kernel_rfl))
 f299 := Tryz.func122.trans (congrArg some (by kernel_rfl))
 f300 := Tryz.func124.trans (congrArg some (by kernel_rfl))
 f301 := Tryz.func125.trans (congrArg some (by kernel_rfl))
 f328 := Tryz.func135.trans (congrArg some (by kernel_rfl))
 f329 := Tryz.func136.trans (congrArg some (by kernel_rfl))
 f330 := Tryz.func137.trans (congrArg some (by kernel_rfl))
 f331 := Tryz.func138.trans (congrArg some (by kernel_rfl))
 f332 := Tryz.func139.trans (congrArg some (by kernel_rfl))
 f343 := Tryz.func149.trans (congrArg some (by kernel_rfl))
 t0 := Tryz.underlying0
 a0 := Tryz.isAgg0
 z0 := Tryz.sizeOf0
 v0 := Tryz.zeroValue0
 t3 := Tryz.underlying3
 a3 := Tryz.isAgg3
 z3 := Tryz.sizeOf3
 v3 := Tryz.zeroValue3
 t4 := Tryz.underlying4
 a4 := Tryz.isAgg4
 z4 := Tryz.sizeOf4
 v4 := Tryz.zeroValue4
 t5 := Tryz.underlying5
 a5 := Tryz.isAgg5
 z5 := Tryz.sizeOf5
 v5 := Tryz.zeroValue5
 t9 := Tryz.underlying9
 a9 := Tryz.isAgg9
 z9 := Tryz.sizeOf9
 v9 := Tryz.zeroValue9
 t28 := Tryz.underlying23
 a28 := Tryz.isAgg23
 z28 := Tryz.sizeOf23
 v28 := Tryz.zeroValue23
 t46 := Tryz.underlying115
 a46 := Tryz.isAgg115
 z46 := Tryz.sizeOf115
 v46 := Tryz.zeroValue115
 t51 := Tryz.underlying141
 a51 := Tryz.isAgg141
 z51 := Tryz.sizeOf141
 v51 := Tryz.zeroValue141
 t53 := Tryz.underlying143
 a53 := Tryz.isAgg143
 z53 := Tryz.sizeOf143
 v53 := Tryz.zeroValue143
 t131 := Tryz.underlying138
 a131 := Tryz.isAgg138
 z131 := Tryz.sizeOf138
 v131 := Tryz.zeroValue138
 t182 := Tryz.underlying133
 a182 := Tryz.isAgg133
 z182 := Tryz.sizeOf133
 v182 := Tryz.zeroValue133
 t183 := Tryz.underlying134
 a183 := Tryz.isAgg134
 z183 := Tryz.sizeOf134
 v183 := Tryz.zeroValue134
 t218 := Tryz.underlying148
 a218 := Tryz.isAgg148
 z218 := Tryz.sizeOf148
 v218 := Tryz.zeroValue148
 t222 := Tryz.underlying152
 a222 := Tryz.isAgg152
 z222 := Tryz.sizeOf152
 v222 := Tryz.zeroValue152
 t228 := Tryz.underlying159
 a228 := Tryz.isAgg159
 z228 := Tryz.sizeOf159
 v228 := Tryz.zeroValue159
 t229 := Tryz.underlying160
 a229 := Tryz.isAgg160
 z229 := Tryz.sizeOf160
 v229 := Tryz.zeroValue160
theorem slices_Sort_int_c (xs : List Int) (hlen : xs.length ≤ 1000000000) : Ret Tryz.prog 49 [.flat 3 1 (xs.map (D.int .i64))] (fun _ => false) [.msl 0 1 0 xs.length] (.tup []) [.flat 3 1 ((sortI xs).map (D.int .i64))] :=
 ret_sortI 3 (fun _ => false) xs callB49 (by omega) (fun p cap w => Any.slices_Sort_int_none sortI49 p cap w) (fun blk off cap zs w hH hb hl => Any.slices_Sort_int sortI49 blk off cap zs w hH hb hl)

def compI50_ren : Go.Shelf.Ren := ⟨fun | 20 => 50 | n => n, fun | 22 => 23 | 3 => 3 | 4 => 4 | 0 => 0 | n => n, fun | n => n⟩
theorem compI50 : Go.Proofs.Lays2.n20 Tryz.prog compI50_ren where
 mixed := by kernel_rfl
 f20 := Tryz.func50.trans (congrArg some (by kernel_rfl))
 t0 := Tryz.underlying0
 a0 := Tryz.isAgg0
 z0 := Tryz.sizeOf0
 v0 := Tryz.zeroValue0
 t3 := Tryz.underlying3
 a3 := Tryz.isAgg3
 z3 := Tryz.sizeOf3
 v3 := Tryz.zeroValue3
 t4 := Tryz.underlying4
 a4 := Tryz.isAgg4
 z4 := Tryz.sizeOf4
 v4 := Tryz.zeroValue4
 t22 := Tryz.underlying23
 a22 := Tryz.isAgg23
 z22 := Tryz.sizeOf23
 v22 := Tryz.zeroValue23
 i3 := by kernel_rfl
theorem slices_Compact_int_c (xs : List Int) (hlen : xs.length ≤ 1000000000) : Ret Tryz.prog 50 [.flat 3 1 (xs.map (D.int .i64))] (fun _ => false) [.msl 0 1 0 xs.length] (.msl 0 1 0 (Go.Lib.compact xs).length) [.flat 3 1 ((Go.Lib.compact xs).map (D.int .i64))] :=
 ret_compactI 3 (fun _ => false) xs callB50 (by omega) (fun p cap w => Any.slices_Compact_int_empty compI50 p cap w) (fun blk off cap zs w hH h1 h2 => Any.slices_Compact_int compI50 blk off cap zs w hH h1 h2)

def sort107_ren : Go.Shelf.Ren := ⟨fun | 6 => 107 | 15 => 93 | 14 => 130 | 28 => 126 | 29 => 127 | 20 => 140 | 21 => 141 | 22 => 142 | 23 => 143 | 24 => 144 | 25 => 145 | 26 => 146 | 27 => 147 | 46 => 150 | 47 => 136 | 48 => 137 | 49 => 151 | 50 => 152 | 57 => 154 | n => n, fun | 22 => 49 | 24 => 73 | 25 => 128 | 3 => 3 | 39 => 115 | 0 => 0 | 53 => 141 | 55 => 143 | 4 => 4 | 46 => 134 | 45 => 133 | 50 => 138 | 5 => 5 | 9 => 9 | 66 => 148 | 70 => 152 | 76 => 159 | 77 => 160 | n => n, fun | n => n⟩
theorem sort107 : Go.Proofs.SlLaysF0.n6 Tryz.prog sort107_ren where
 mixed := by kernel_rfl
 f6 := ⟨Tryz.f107.name, by kernel_rfl, Tryz.func107.trans (congrArg some (by kernel_rfl))⟩
 f14 := ⟨Tryz.f130.name, by kernel_rfl, Tryz.func130.trans (congrArg some (by kernel_rfl))⟩
 f15 := Tryz.func93.trans (congrArg some (by kernel_rfl))
 f20 := ⟨Tryz.f140.name, by kernel_rfl, Tryz.func140.trans (congrArg some (by kernel_rfl))⟩
 f21 := ⟨Tryz.f141.name, by kernel_rfl, Tryz.func141.trans (congrArg some (by kernel_rfl))⟩
 f22 := ⟨Tryz.f142.name, by kernel_rfl, Tryz.func142.trans (congrArg some (by kernel_rfl))⟩
 f23 := ⟨Tryz.f143.name, by kernel_rfl, Tryz.func143.trans (congrArg some (by kernel_rfl))⟩
 f24 := ⟨Tryz.f144.name, by kernel_rfl, Tryz.func144.trans (congrArg some (by kernel_rfl))⟩
 f25 := ⟨Tryz.f145.name, by kernel_rfl, Tryz.func145.trans (congrArg some (by kernel_rfl))⟩
 f26 := ⟨Tryz.f146.name, by kernel_rfl, Tryz.func146.trans (congrArg some (by kernel_rfl))⟩
 f27 := ⟨Tryz.f147.name, by kernel_rfl, Tryz.func147.trans (congrArg some (by kernel_rfl))⟩
 f28 := Tryz.func126.trans (congrArg some (by kernel_rfl))
 f29 := Tryz.func127.trans (congrArg some (by kernel_rfl))
 f46 := ⟨Tryz.f150.name, by kernel_rfl, Tryz.func150.trans (congrArg some (by kernel_rfl))⟩
 f47 := Tryz.func136.trans (congrArg some (by kernel_rfl))
 f48 := Tryz.func137.trans (congrArg some (by kernel_rfl))
 f49 := ⟨Tryz.f151.name, by kernel_rfl, Tryz.func151.trans (congrArg some (by kernel_rfl))⟩
 f50 := ⟨Tryz.f152.name, by kernel_rfl, Tryz.func152.trans (congrArg some (by kernel_rfl))⟩
 f57 := ⟨Tryz.f154.name, by kernel_rfl, Tryz.func154.trans (congrArg some (by kernel_rfl))⟩
 t0 := Tryz.underlying0
 a0 := Tryz.isAgg0
 z0 := Tryz.sizeOf0
 v0 := Tryz.zeroValue0
 t3 := Tryz.underlying3
 a3 := Tryz.isAgg3
 z3 := Tryz.sizeOf3
 v3 := Tryz.zeroValue3
 t4 := Tryz.underlying4
 a4 := Tryz.isAgg4
 z4 := Tryz.sizeOf4
 v4 := Tryz.zeroValue4
 t5 := Tryz.underlying5
 a5 := Tryz.isAgg5
 z5 := Tryz.sizeOf5
 v5 := Tryz.zeroValue5
 t9 := Tryz.underlying9
 a9 := Tryz.isAgg9
 z9 := Tryz.sizeOf9
 v9 := Tryz.zeroValue9
 t22 := Tryz.underlying49
 a22 := Tryz.isAgg49
 z22 := Tryz.sizeOf49
 v22 := Tryz.zeroValue49
 t25 := Tryz.underlying128
 a25 := Tryz.isAgg128
 z25 := Tryz.sizeOf128
 v25 := Tryz.zeroValue128
 t39 := Tryz.underlying115
 a39 := Tryz.isAgg115
 z39 := Tryz.sizeOf115
 v39 := Tryz.zeroValue115
 t45 := Tryz.underlying133
 a45 := Tryz.isAgg133
 z45 := Tryz.sizeOf133
 v45 := Tryz.zeroValue133
 t46 := Tryz.underlying134
 a46 := Tryz.isAgg134
 z46 := Tryz.sizeOf134
 v46 := Tryz.zeroValue134
 t50 := Tryz.underlying138
 a50 := Tryz.isAgg138
 z50 := Tryz.sizeOf138
 v50 := Tryz.zeroValue138
 t53 := Tryz.underlying141
 a53 := Tryz.isAgg141
 z53 := Tryz.sizeOf141
 v53 := Tryz.zeroValue141
 t55 := Tryz.underlying143
 a55 := Tryz.isAgg143
 z55 := Tryz.sizeOf143
 v55 := Tryz.zeroValue143
 t66 := Tryz.underlying148
 a66 := Tryz.isAgg148
 z66 := Tryz.sizeOf148
 v66 := Tryz.zeroValue148
 t70 := Tryz.underlying152
 a70 := Tryz.isAgg152
 z70 := Tryz.sizeOf152
 v70 := Tryz.zeroValue152
 t76 := Tryz.underlying159
 a76 := Tryz.isAgg159
 z76 := Tryz.sizeOf159
 v76 := Tryz.zeroValue159
 t77 := Tryz.underlying160
 a77 := Tryz.isAgg160
 z77 := Tryz.sizeOf160
 v77 := Tryz.zeroValue160
theorem slices_SortFunc_Setting_c {G : FuncId} {c : D} {cs : List D} {m : Setting → Setting → Option Int} (hs : SortOk m) (hfn : fnOf c = some (G, cs)) (hclo : ∀ a b r, m a b = some r → RetD Tryz.prog G ([a.enc, b.enc] ++ cs) (.int .i64 r)) (xs : List Setting) (hlen : xs.length ≤ 1000000000) : Ret Tryz.prog 107 [.flat 73 2 (xs.map Setting.enc)] (fun _ => false) [.msl 0 2 0 xs.length, .d c] (.tup []) [.flat 73 2 ((sortM m xs).map Setting.enc)] := by
 have hcb : callB Tryz.prog G = true := by
  obtain ⟨r, hr⟩ := hs.tot default default
  obtain ⟨_, _, _, h, _⟩ := hclo _ _ _ hr
  exact h.1
 have hlt : ltOf (fun x y => (m x y).getD 0) = ltM m := rfl
 have hS := ret_sortK (P := Tryz.prog) (F := 107) (G := G) (sz := 2) (f := Setting.enc) (c := c) (cs := cs) (cf := fun x y => (m x y).getD 0) (S := fun d => d.toList.mergeSort fun x y => !(ltM m) y x) 73 (fun _ => false) xs callB107 (fun _ => rfl) (fun _ => rfl) (fun _ => rfl) hfn
  (fun x y => by obtain ⟨r, hr⟩ := hs.tot x y; rw [hr]; exact hclo x y r hr) (by omega) (by rw [List.length_mergeSort])
  (fun p cap fv w => AnyF.slices_SortFunc_none { sort107 with } p cap fv w)
  (fun blk off cap cb d w hcl hH hb hl => AnyQ.slices_SortFunc_total sort107 2 Tryz.isAgg73 Tryz.sizeOf73 (fun x => (Setting.enc x).cells.map D.val) (fun _ => rfl) (fun x v hv => by obtain ⟨c, hc, rfl⟩ := List.mem_map.1 hv; simp only [Setting.enc, D.cells, List.mem_cons, List.not_mem_nil, or_false] at hc; rcases hc with rfl | rfl <;> rfl) (fun x y => (m x y).getD 0)
   ⟨hs.irrefl, hs.trans, hs.ntrans⟩ G cb blk off cap d w (callB_enters hcb) hcl hH hb hl hs.anti)
 rwa [show (xs.toArray.toList.mergeSort fun x y => !(ltM m) y x) = sortM m xs from sortM_merge hs xs] at hS

end Go.Proofs.YtdhicpmpefkojaaGreat

set_option maxHeartbeats 8000000
set_option linter.unusedSimpArgs false
set_option linter.unusedVariables false
set_option maxRecDepth 20000
namespace Go.Proofs.YtdhicpmpefkojaaGreat
open Go Go.TL

theorem law21_Small_c {p0 : Table} {p1 : Inter} {r : Bool} (hm : law21_Small p0 p1 = some r) : RetN Tryz.prog 8 [p0.enc, p1.enc] (.bool (r)) := by
 refine .unit (ret_bodyS callB8 Tryz.func8 rfl Tryz.ntmps8 rfl rfl (fun wX gX => ?_)) rfl
 unfold law21_Small at hm
 refine WN [0, 1] rfl rfl (RS (s_bx 0 rfl rfl rfl (s_bx 1 rfl rfl rfl (SA TK rfl (TN (WN [2, 3] rfl rfl ?_))))))
 refine w_joinS hm (fun _ => ([] : Fr)) (fun _ => ([] : List (Nat × Blk))) [] [2, 3] rfl (fun z1 hm hz1 => ?_) (fun j hm => ?_)
 ·refine RS (SA TK rfl (SA TK rfl (SX rfl rfl (x_len TK rfl rfl rfl) (SA TK rfl (TN (WN [2, 3, 9, 10] rfl rfl (TB (w_loop hm (fun x3 => ([(10, .d (.int .i64 x3))] : Fr)) (fun x3 => ([] : List (Nat × Blk))) [10] [2, 3, 9] [0, 1] rfl k0 rfl rfl rfl rfl rfl (fun x3 z4 hm hz4 => (WN [2, 3, 9, 10] rfl rfl ?_))))))))))
  refine RS (SA TK rfl (TN (WN [2, 3, 9, 10, 11] rfl rfl (TQ ?_))))
  refine TC _ rfl (fun h5 => ?_) (fun h5 => ?_)
  ·replace hm := JT h5 hm
   refine TS (WT (WN [2, 3, 9, 10] rfl rfl (TQ (TB (RS (SA TK rfl (SA TK rfl (TN (WN [2, 3, 5, 9, 10] rfl rfl ?_)))))))))
   refine RS (SA TK rfl (SA TK rfl (SA TK rfl ?_)))
   obtain ⟨e6, he6, hm⟩ := GV hm
   refine SX rfl rfl (x_ix TK rfl rfl rfl rfl he6) (SA TK rfl (s_al 2 rfl rfl zero52 rfl (s_wkb 2 [none, none, none, some 3, some 2, some 1, none, none, some 3, some 2, some 1, some 2, some 1, some 2] rfl rfl (SA TK rfl (TN (WN [2, 3, 6, 9, 10] rfl rfl ?_))))))
   refine w_cut [(51, .d (.bool (((decide ((30 : Int) < (e6.sections.length : Int))) || ((decide ((30 : Int) < (e6.overSections.length : Int))) || ((decide ((30 : Int) < (e6.points.length : Int))) || ((decide ((30 : Int) < (e6.overPoints.length : Int))) || ((decide ((30 : Int) < (e6.flank.length : Int))) || (decide ((30 : Int) < (e6.path.length : Int)))))))))))] [51] [2, 3, 9, 10] rfl ?_ ?_
   ·refine TG (SA TK rfl (SA TK rfl (SX rfl rfl (x_len TK rfl rfl rfl) (SA TK rfl (SB TK rfl (fun q7 hq7 => ?_))))))
    cases q7
    ·refine SA TK rfl (SA TK rfl (SX rfl rfl (x_len TK rfl rfl rfl) (SA TK rfl (SA TK rfl (SB TK rfl (fun q8 hq8 => ?_))))))
     cases q8
     ·refine SA TK rfl (SA TK rfl (SX rfl rfl (x_len TK rfl rfl rfl) (SA TK rfl (SA TK rfl (SB TK rfl (fun q9 hq9 => ?_))))))
      cases q9
      ·refine SA TK rfl (SA TK rfl (SX rfl rfl (x_len TK rfl rfl rfl) (SA TK rfl (SA TK rfl (SB TK rfl (fun q10 hq10 => ?_))))))
       cases q10
       ·refine SA TK rfl (SA TK rfl (SX rfl rfl (x_len TK rfl rfl rfl) (SA TK rfl (SA TK rfl (SB TK rfl (fun q11 hq11 => ?_))))))
        cases q11
        ·refine SA TK rfl (SA TK rfl (SX rfl rfl (x_len TK rfl rfl rfl) (SA TK rfl (SA TK rfl (TN (WT ?_))))))
         exact ⟨[0, 1, 2], rfl, k0, st_eq (fr_cons (av_bool (by simp [hq7, hq8, hq9, hq10, hq11])) rfl) rfl⟩
        ·iterate 5 (refine SA TK rfl ?_)
         refine TN (WT ?_)
         exact ⟨[0, 1, 2], rfl, k0, st_eq (fr_cons (av_bool (by simp [hq7, hq8, hq9, hq10, hq11])) rfl) rfl⟩
       ·iterate 11 (refine SA TK rfl ?_)
        refine TN (WT ?_)
        exact ⟨[0, 1, 2], rfl, k0, st_eq (fr_cons (av_bool (by simp [hq7, hq8, hq9, hq10])) rfl) rfl⟩
      ·iterate 17 (refine SA TK rfl ?_)
       refine TN (WT ?_)
       exact ⟨[0, 1, 2], rfl, k0, st_eq (fr_cons (av_bool (by simp [hq7, hq8, hq9])) rfl) rfl⟩
     ·iterate 23 (refine SA TK rfl ?_)
      refine TN (WT ?_)
      exact ⟨[0, 1, 2], rfl, k0, st_eq (fr_cons (av_bool (by simp [hq7, hq8])) rfl) rfl⟩
    ·iterate 29 (refine SA TK rfl ?_)
     refine TN (WT ?_)
     exact ⟨[0, 1, 2], rfl, k0, st_eq (fr_cons (av_bool (by simp [hq7])) rfl) rfl⟩
   ·refine WN [2, 3, 9, 10, 51] rfl rfl ?_
    refine TC _ rfl (fun h12 => ?_) (fun h12 => ?_)
    ·replace hm := JA h12 hm
     refine RS (SA TK rfl (TN (WN [4] rfl rfl (TR (WB (WR ?_))))))
     obtain ⟨v13, hm, hz⟩ := II hm
     rw [hz4 _ hz] at hm
     refine WR (WB ?_)
     obtain ⟨v14, hm, hz⟩ := II hm
     rw [hz1 _ hz] at hm
     refine WR ?_
     obtain rfl := OJ hm
     exact EndsS.one _ rfl (.d _) (.refl _)
    ·replace hm := JB h12 hm
     refine TS (WK (WT (WN [2, 3, 9, 10] rfl rfl (TG ?_))))
     obtain ⟨g15, hm⟩ := GI hm
     refine SX rfl rfl (x_ar rfl rfl rfl rfl g15) (SA TK rfl (TN (WT ?_)))
     exact ⟨_, [0, 1], (SJ hm), rfl, k0, rfl⟩
  ·replace hm := JF h5 hm
   refine twp_exit (WX ?_)
   obtain ⟨v16, hm, hz⟩ := II hm
   rw [hz4 _ hz] at hm
   refine WX (WH (WT ?_))
   exact ⟨_, [0, 1], (SJ hm), rfl, k0, rfl⟩
 ·refine WN [2, 3] rfl rfl ?_
  refine w_cut [(4, .d (.bool (((decide ((p0.routes.length : Int) ≤ (50 : Int))) && ((decide ((p0.points.length : Int) ≤ (40 : Int))) && ((decide ((p0.homes.length : Int) ≤ (40 : Int))) && ((decide ((p1.routes.length : Int) ≤ (50 : Int))) && (decide ((p1.lies.length : Int) ≤ (40 : Int))))))))))] [4] [] rfl ?_ ?_
  ·refine TG (SA TK rfl (SA TK rfl (SX rfl rfl (x_len TK rfl rfl rfl) (SA TK rfl (SB TK rfl (fun q17 hq17 => ?_))))))
   cases q17
   ·iterate 24 (refine SA TK rfl ?_)
    refine TN (WT ?_)
    exact ⟨[0, 1], rfl, k0, st_eq (fr_cons (av_bool (by simp [hq17])) rfl) rfl⟩
   ·refine SA TK rfl (SA TK rfl (SX rfl rfl (x_len TK rfl rfl rfl) (SA TK rfl (SA TK rfl (SB TK rfl (fun q18 hq18 => ?_))))))
    cases q18
    ·iterate 18 (refine SA TK rfl ?_)
     refine TN (WT ?_)
     exact ⟨[0, 1], rfl, k0, st_eq (fr_cons (av_bool (by simp [hq17, hq18])) rfl) rfl⟩
    ·refine SA TK rfl (SA TK rfl (SX rfl rfl (x_len TK rfl rfl rfl) (SA TK rfl (SA TK rfl (SB TK rfl (fun q19 hq19 => ?_))))))
     cases q19
     ·iterate 12 (refine SA TK rfl ?_)
      refine TN (WT ?_)
      exact ⟨[0, 1], rfl, k0, st_eq (fr_cons (av_bool (by simp [hq17, hq18, hq19])) rfl) rfl⟩
     ·refine SA TK rfl (SA TK rfl (SX rfl rfl (x_len TK rfl rfl rfl) (SA TK rfl (SA TK rfl (SB TK rfl (fun q20 hq20 => ?_))))))
      cases q20
      ·iterate 6 (refine SA TK rfl ?_)
       refine TN (WT ?_)
       exact ⟨[0, 1], rfl, k0, st_eq (fr_cons (av_bool (by simp [hq17, hq18, hq19, hq20])) rfl) rfl⟩
      ·refine SA TK rfl (SA TK rfl (SX rfl rfl (x_len TK rfl rfl rfl) (SA TK rfl (SA TK rfl (SA TK rfl (TN (WT ?_)))))))
       exact ⟨[0, 1], rfl, k0, st_eq (fr_cons (av_bool (by simp [hq17, hq18, hq19, hq20])) rfl) rfl⟩
  ·refine WN [4] rfl rfl (TR ?_)
   obtain rfl := OJ hm
   exact EndsS.one _ rfl (.d _) (.refl _)

theorem law22_Few_c {p0 : Inputs} {r : Bool} (hm : law22_Few p0 = some r) : RetN Tryz.prog 9 [p0.enc] (.bool (r)) := by
 refine .unit (ret_bodyS callB9 Tryz.func9 rfl Tryz.ntmps9 rfl rfl (fun wX gX => ?_)) rfl
 unfold law22_Few at hm
 refine WN [0] rfl rfl (RS (s_bx 0 rfl rfl rfl (SA TK rfl (TN (WN [1] rfl rfl ?_)))))
 refine w_cut [(2, .d (.bool (((decide ((p0.occupied.length : Int) ≤ (100 : Int))) && ((decide ((p0.detected.length : Int) ≤ (100 : Int))) && ((decide ((p0.closed.length : Int) ≤ (100 : Int))) && ((decide ((p0.claimed.length : Int) ≤ (100 : Int))) && ((decide ((p0.passed.length : Int) ≤ (100 : Int))) && ((decide ((p0.calls.length : Int) ≤ (100 : Int))) && (decide ((p0.cancels.length : Int) ≤ (100 : Int))))))))))))] [2] [] rfl ?_ ?_
 ·refine TG (SA TK rfl (SA TK rfl (SX rfl rfl (x_len TK rfl rfl rfl) (SA TK rfl (SB TK rfl (fun q1 hq1 => ?_))))))
  cases q1
  ·iterate 36 (refine SA TK rfl ?_)
   refine TN (WT ?_)
   exact ⟨[0], rfl, k0, st_eq (fr_cons (av_bool (by simp [hq1])) rfl) rfl⟩
  ·refine SA TK rfl (SA TK rfl (SX rfl rfl (x_len TK rfl rfl rfl) (SA TK rfl (SA TK rfl (SB TK rfl (fun q2 hq2 => ?_))))))
   cases q2
   ·iterate 30 (refine SA TK rfl ?_)
    refine TN (WT ?_)
    exact ⟨[0], rfl, k0, st_eq (fr_cons (av_bool (by simp [hq1, hq2])) rfl) rfl⟩
   ·refine SA TK rfl (SA TK rfl (SX rfl rfl (x_len TK rfl rfl rfl) (SA TK rfl (SA TK rfl (SB TK rfl (fun q3 hq3 => ?_))))))
    cases q3
    ·iterate 24 (refine SA TK rfl ?_)
     refine TN (WT ?_)
     exact ⟨[0], rfl, k0, st_eq (fr_cons (av_bool (by simp [hq1, hq2, hq3])) rfl) rfl⟩
    ·refine SA TK rfl (SA TK rfl (SX rfl rfl (x_len TK rfl rfl rfl) (SA TK rfl (SA TK rfl (SB TK rfl (fun q4 hq4 => ?_))))))
     cases q4
     ·iterate 18 (refine SA TK rfl ?_)
      refine TN (WT ?_)
      exact ⟨[0], rfl, k0, st_eq (fr_cons (av_bool (by simp [hq1, hq2, hq3, hq4])) rfl) rfl⟩
     ·refine SA TK rfl (SA TK rfl (SX rfl rfl (x_len TK rfl rfl rfl) (SA TK rfl (SA TK rfl (SB TK rfl (fun q5 hq5 => ?_))))))
      cases q5
      ·iterate 12 (refine SA TK rfl ?_)
       refine TN (WT ?_)
       exact ⟨[0], rfl, k0, st_eq (fr_cons (av_bool (by simp [hq1, hq2, hq3, hq4, hq5])) rfl) rfl⟩
      ·refine SA TK rfl (SA TK rfl (SX rfl rfl (x_len TK rfl rfl rfl) (SA TK rfl (SA TK rfl (SB TK rfl (fun q6 hq6 => ?_))))))
       cases q6
       ·iterate 6 (refine SA TK rfl ?_)
        refine TN (WT ?_)
        exact ⟨[0], rfl, k0, st_eq (fr_cons (av_bool (by simp [hq1, hq2, hq3, hq4, hq5, hq6])) rfl) rfl⟩
       ·refine SA TK rfl (SA TK rfl (SX rfl rfl (x_len TK rfl rfl rfl) (SA TK rfl (SA TK rfl (SA TK rfl (TN (WT ?_)))))))
        exact ⟨[0], rfl, k0, st_eq (fr_cons (av_bool (by simp [hq1, hq2, hq3, hq4, hq5, hq6])) rfl) rfl⟩
 ·refine WN [2] rfl rfl (TR ?_)
  obtain rfl := OJ hm
  exact EndsS.one _ rfl (.d _) (.refl _)

theorem law23_Table_c  {r : Table} (hm : law23_Table  = some r) : RetD Tryz.prog 24 [] (r.enc) := by
 refine .of (mv := fun _ => false) (ret_bodyS callB24 Tryz.func24 rfl Tryz.ntmps24 rfl rfl (fun wX gX => ?_))
 unfold law23_Table at hm
 refine WN [] rfl rfl (RS (s_al 0 rfl rfl zero25 rfl (s_wkb 0 [some 14, some 1, some 1, none, none] rfl rfl (TN (WN [0] rfl rfl (RS (SX rfl rfl (build_d rfl plc80 zero80 rfl rfl rfl rfl) (SX rfl rfl (x_lit [.tmp 1] TK rfl rfl zero80 rfl rfl rfl rfl rfl) ?_))))))))
 refine SX rfl rfl (x_lit [.const (Value.int IntKind.i64 1)] TK rfl rfl zero3 rfl rfl rfl rfl rfl) (SX rfl rfl (build_d rfl plc52 zero52 rfl rfl rfl rfl) (s_wk 4 [none, none, none, none, some 2, none, none, none, some 3, some 2, some 1, some 2, some 1, some 2] rfl (SX rfl rfl (build_d rfl plc80 zero80 rfl rfl rfl rfl) (SX rfl rfl (x_lit [.tmp 5] TK rfl rfl zero80 rfl rfl rfl rfl rfl) (SX rfl rfl (x_lit [.const (Value.int IntKind.i64 2)] TK rfl rfl zero3 rfl rfl rfl rfl rfl) (SX rfl rfl (build_d rfl plc52 zero52 rfl rfl rfl rfl) (s_wk 8 [none, none, none, none, some 2, none, none, none, some 3, some 2, some 1, some 2, some 1, some 2] rfl (SX rfl rfl (x_lit [.tmp 4, .tmp 8] TK rfl rfl zero52 rfl rfl rfl rfl rfl) ?_))))))))
 refine SX rfl rfl (build_d rfl plc25 zero25 rfl rfl rfl rfl) (s_wk 10 [none, some 1, some 1, none, none] rfl (SA TK rfl (TN (WN [0] rfl rfl (TR ?_)))))
 obtain rfl := OJ hm
 exact EndsS.cellR _ TK rfl rfl rfl rfl rfl (.d _)

theorem law23_free_c {p0 : (List Int)} {r : Inputs} (hm : law23_free p0 = some r) : RetD Tryz.prog 25 [.sl 1 (p0.map (D.int .i64))] (r.enc) := by
 refine .of (mv := fun _ => false) (ret_bodyS callB25 Tryz.func25 rfl Tryz.ntmps25 rfl rfl (fun wX gX => ?_))
 unfold law23_free at hm
 refine WN [0] rfl rfl (RS (s_al 0 rfl rfl zero31 rfl (s_upB (f := D.bool) 0 0 1 4 1 rfl rfl rfl (s_wkb 0 [none, some 1, some 1, some 1, some 1, some 1, some 1] rfl rfl (TN (WN [0, 2] rfl rfl (twp_hole (twp_hole ?_))))))))
 refine twp_dseq follows  ?_
 obtain ⟨g1, hm⟩ := GI hm
 refine d_wr [2] _ (.msl 2 1 0 (List.replicate (3 : Int).toNat false).length) rfl (onE_A rfl) rfl (w_mkD (f := D.bool) (x := false) TK rfl rfl rfl zero4 rfl rfl rfl rfl rfl g1 rfl) ?_
 obtain ⟨g2, hm⟩ := GI hm
 refine DX [] rfl rfl (x_make (f := D.bool) (x := false) TK rfl rfl zero4 rfl rfl rfl rfl rfl g2 rfl) ?_
 obtain ⟨g3, hm⟩ := GI hm
 refine DX [] rfl rfl (x_make (f := D.bool) (x := false) TK rfl rfl zero4 rfl rfl rfl rfl rfl g3 rfl) ?_
 obtain ⟨g4, hm⟩ := GI hm
 refine DX [] rfl rfl (x_make (f := D.bool) (x := false) TK rfl rfl zero4 rfl rfl rfl rfl rfl g4 rfl) (DX [] rfl rfl (rd_build rfl plc31 zero31 rfl rfl rfl rfl) (d_wr [3] _ (.mptr 3 0 0 0) rfl (onE_A rfl) rfl (w_alloc rfl rfl zero31 rfl rfl) ?_))
 refine DT ?_ (by kernel_rfl)
 refine SA TK rfl (s_wkb 3 [none, some 1, none, none, none, some 1, some 1] rfl rfl (TN (WN [0, 2, 3] rfl rfl ?_)))
 refine w_joinM hm (fun b5 => ([] : Fr)) (fun b5 => ([(2, .flat 4 1 (b5.map D.bool)), (3, .box 31 [.msl 2 1 0 b5.length, .d (.sl 1 (([] : List Int).map (D.int .i64))), .d (.sl 1 ((List.replicate (3 : Int).toNat false).map D.bool)), .d (.sl 1 ((List.replicate (2 : Int).toNat false).map D.bool)), .d (.sl 1 ((List.replicate (2 : Int).toNat false).map D.bool)), .d (.sl 1 (([] : List Int).map (D.int .i64))), .d (.sl 1 (([] : List Int).map (D.int .i64)))])] : List (Nat × Blk))) [] [2, 3] rfl (fun z6 hm => ?_) (fun b5 hm => ?_)
 ·refine RS (SA TK rfl (SX rfl rfl (x_len TK rfl rfl rfl) (SA TK rfl (TN (WN [2, 3, 11, 12, 13] rfl rfl (TB (w_loop hm (fun (x10, b11) => ([(13, .d (.int .i64 x10))] : Fr)) (fun (x10, b11) => ([(2, .flat 4 1 (b11.map D.bool)), (3, .box 31 [.msl 2 1 0 b11.length, .d (.sl 1 (([] : List Int).map (D.int .i64))), .d (.sl 1 ((List.replicate (3 : Int).toNat false).map D.bool)), .d (.sl 1 ((List.replicate (2 : Int).toNat false).map D.bool)), .d (.sl 1 ((List.replicate (2 : Int).toNat false).map D.bool)), .d (.sl 1 (([] : List Int).map (D.int .i64))), .d (.sl 1 (([] : List Int).map (D.int .i64)))])] : List (Nat × Blk))) [13] [2, 3, 11, 12] [0, 1, 2, 3] rfl k0 rfl rfl rfl rfl rfl (fun s z12 hm hz12 => ?_))))))))
  obtain ⟨x10, b11⟩ := s
  refine WN [2, 3, 11, 12, 13] rfl rfl (RS (SA TK rfl (TN (WN [2, 3, 11, 12, 13, 14] rfl rfl (TQ ?_)))))
  refine TC _ rfl (fun h13 => ?_) (fun h13 => ?_)
  ·replace hm := JT h13 hm
   refine TS (WT (WN [2, 3, 11, 12, 13] rfl rfl (TQ (TB (RS ?_)))))
   obtain ⟨e14, he14, hm⟩ := GV hm
   refine SX rfl rfl (x_ix TK rfl rfl rfl rfl he14) (SA TK rfl (SA TK rfl (TN (WN [2, 3, 5, 11, 12, 13] rfl rfl (TG (SA TK rfl (SA TK rfl (SA TK rfl ?_))))))))
   obtain ⟨e15, he15, hm⟩ := GV hm
   refine SX rfl rfl (x_ixo TK rfl rfl rfl rfl he15 rfl) (s_sto (x' := true) TK rfl rfl rfl rfl rfl he15.2 rfl rfl rfl (s_lno 18 (b11.set e14.toNat true).length rfl List.length_set.symm ?_))
   refine s_eqB 3 [.msl 2 1 0 (b11.set e14.toNat true).length, .d (.sl 1 (([] : List Int).map (D.int .i64))), .d (.sl 1 ((List.replicate (3 : Int).toNat false).map D.bool)), .d (.sl 1 ((List.replicate (2 : Int).toNat false).map D.bool)), .d (.sl 1 ((List.replicate (2 : Int).toNat false).map D.bool)), .d (.sl 1 (([] : List Int).map (D.int .i64))), .d (.sl 1 (([] : List Int).map (D.int .i64)))] rfl (by simp only [List.length_set]) ?_
   refine TN (WK (WT (WN [2, 3, 11, 12, 13] rfl rfl (TG ?_))))
   obtain ⟨g16, hm⟩ := GI hm
   refine SX rfl rfl (x_ar rfl rfl rfl rfl g16) (SA TK rfl (TN (WT ?_)))
   exact ⟨_, [0, 1, 2, 3], (SJ hm), rfl, k0, rfl⟩
  ·replace hm := JF h13 hm
   refine twp_exit (WX ?_)
   obtain ⟨v17, hm, hz⟩ := II hm
   rw [hz12 _ hz] at hm
   refine WX (WH (WT ?_))
   exact ⟨_, [0, 1, 2, 3], (SJ hm), rfl, k0, rfl⟩
 ·refine WN [2, 3] rfl rfl (RS (SA TK rfl (SA TK rfl (TN (WN [2] rfl rfl (TR ?_))))))
  obtain rfl := OJ hm
  exact EndsS.cellR _ TK rfl rfl rfl rfl rfl (snap_agg (.cons (snap_map rfl) rfl (.cons (.d _) rfl (.cons (.d _) rfl (.cons (.d _) rfl (.cons (.d _) rfl (.cons (.d _) rfl (.cons (.d _) rfl .nil))))))))

theorem table_within_c {p0 : Int} {p1 : Int} {r : Bool} (hm : table_within p0 p1 = some r) : RetN Tryz.prog 56 [.int .i64 p0, .int .i64 p1] (.bool (r)) := by
 refine .unit (ret_bodyS callB56 Tryz.func56 rfl Tryz.ntmps56 rfl rfl (fun wX gX => ?_)) rfl
 unfold table_within at hm
 refine WN [0, 1] rfl rfl (RS (SA TK rfl (TN (WN [0, 1] rfl rfl ?_))))
 refine w_cut [(4, .d (.bool (((decide ((0 : Int) ≤ p0)) && (decide (p0 < p1))))))] [4] [] rfl ?_ ?_
 ·refine TG (SA TK rfl (SA TK rfl (SB TK rfl (fun q1 hq1 => ?_))))
  cases q1
  ·iterate 5 (refine SA TK rfl ?_)
   refine TN (WT ?_)
   exact ⟨[], rfl, k0, st_eq (fr_cons (av_bool (by simp [hq1])) rfl) rfl⟩
  ·iterate 5 (refine SA TK rfl ?_)
   refine TN (WT ?_)
   exact ⟨[], rfl, k0, st_eq (fr_cons (av_bool (by simp [hq1])) rfl) rfl⟩
 ·refine WN [4] rfl rfl (TR ?_)
  obtain rfl := OJ hm
  exact EndsS.one _ rfl (.d _) (.refl _)

theorem table_pointsRight_c {p0 : Table} {r : Bool} (hm : table_pointsRight p0 = some r) : RetN Tryz.prog 57 [p0.enc] (.bool (r)) := by
 refine .unit (ret_bodyS callB57 Tryz.func57 rfl Tryz.ntmps57 rfl rfl (fun wX gX => ?_)) rfl
 unfold table_pointsRight at hm
 refine WN [0] rfl rfl (RS (s_bx 0 rfl rfl rfl (SA TK rfl (TN (WN [1] rfl rfl (TQ (RS (SA TK rfl (SA TK rfl ?_)))))))))
 refine SX rfl rfl (x_len TK rfl rfl rfl) (SA TK rfl (SA TK rfl (SX rfl rfl (x_len TK rfl rfl rfl) (SA TK rfl (TN (WN [1, 11] rfl rfl ?_))))))
 refine TC _ rfl (fun h1 => ?_) (fun h1 => ?_)
 ·replace hm := iteN_T h1 hm
  refine RS (SA TK rfl (TN (WN [2] rfl rfl (TR (WR ?_)))))
  obtain rfl := OJ hm
  exact EndsS.one _ rfl (.d _) (.refl _)
 ·replace hm := iteN_F h1 hm
  refine TS (WT (WN [1] rfl rfl ?_))
  refine w_joinS hm (fun _ => ([] : Fr)) (fun _ => ([] : List (Nat × Blk))) [] [] rfl (fun z2 hm hz2 => ?_) (fun j hm => ?_)
  ·refine RS (SA TK rfl (SA TK rfl (SX rfl rfl (x_len TK rfl rfl rfl) (SA TK rfl (TN (WN [1, 13, 14, 15] rfl rfl (TB (w_loop hm (fun x4 => ([(15, .d (.int .i64 x4))] : Fr)) (fun x4 => ([] : List (Nat × Blk))) [15] [1, 13, 14] [0] rfl k0 rfl rfl rfl rfl rfl (fun x4 z5 hm hz5 => (WN [1, 13, 14, 15] rfl rfl ?_))))))))))
   refine RS (SA TK rfl (TN (WN [1, 13, 14, 15, 16] rfl rfl (TQ ?_))))
   refine TC _ rfl (fun h6 => ?_) (fun h6 => ?_)
   ·replace hm := JT h6 hm
    refine TS (WT (WN [1, 13, 14, 15] rfl rfl (TQ (TB (RS (SA TK rfl ?_))))))
    obtain ⟨e7, he7, hm⟩ := GV hm
    refine SX rfl rfl (x_ix TK rfl rfl rfl rfl he7) (SA TK rfl (SA TK rfl (SA TK rfl (TN (WN [1, 3, 4, 13, 14, 15] rfl rfl ?_)))))
    refine w_joinM hm (fun x8 => ([(46, .d (.bool (x8)))] : Fr)) (fun x8 => ([] : List (Nat × Blk))) [46] [1, 13, 14, 15] rfl (fun z9 hm => ?_) (fun x8 hm => ?_)
    ·refine twp_draw follows  ?_
     iterate 2 (refine DA [0] TK rfl ?_)
     refine d_b [0] TK rfl (fun q10 hq10 => ?_)
     cases q10
     ·replace hm := JF hq10 hm
      iterate 2 (refine DA [0] TK rfl ?_)
      refine d_b [0] TK rfl (fun q11 hq11 => ?_)
      cases q11
      ·replace hm := JF hq11 hm
       iterate 14 (refine DA [0] TK rfl ?_)
       obtain ⟨e12, he12, hm⟩ := GV hm
       refine DX [0] rfl rfl (x_ix TK rfl rfl rfl rfl he12) ?_
       iterate 3 (refine DA [0] TK rfl ?_)
       obtain ⟨r13, hr13, hm⟩ := BI hm
       refine DX [0] rfl rfl (RN rfl rfl (SC (.d _) (SC (.d _) SN)) (table_within_c hr13)) ?_
       iterate 2 (refine DA [0] TK rfl ?_)
       refine DT ?_ (by kernel_rfl)
       refine TN (WT ?_)
       exact ⟨_, [0], (SJ hm), rfl, k0, rfl⟩
      ·replace hm := JT hq11 hm
       iterate 4 (refine DA [0] TK rfl ?_)
       obtain ⟨g14, hm⟩ := GI hm
       refine DX [0] rfl rfl (x_ar rfl rfl rfl rfl g14) ?_
       obtain ⟨e15, he15, hm⟩ := GV hm
       refine DX [0] rfl rfl (x_ix TK rfl rfl rfl rfl he15) ?_
       iterate 4 (refine DA [0] TK rfl ?_)
       refine d_b [0] TK rfl (fun q16 hq16 => ?_)
       cases q16
       ·replace hm := JF hq16 hm
        iterate 3 (refine DA [0] TK rfl ?_)
        obtain ⟨e17, he17, hm⟩ := GV hm
        refine DX [0] rfl rfl (x_ix TK rfl rfl rfl rfl he17) ?_
        iterate 3 (refine DA [0] TK rfl ?_)
        obtain ⟨r18, hr18, hm⟩ := BI hm
        refine DX [0] rfl rfl (RN rfl rfl (SC (.d _) (SC (.d _) SN)) (table_within_c hr18)) ?_
        iterate 2 (refine DA [0] TK rfl ?_)
        refine DT ?_ (by kernel_rfl)
        refine TN (WT ?_)
        exact ⟨_, [0], (SJ hm), rfl, k0, rfl⟩
       ·replace hm := JT hq16 hm
        iterate 10 (refine DA [0] TK rfl ?_)
        refine DT ?_ (by kernel_rfl)
        refine TN (WT ?_)
        exact ⟨_, [0], (SJ hm), rfl, k0, rfl⟩
     ·replace hm := JT hq10 hm
      iterate 24 (refine DA [0] TK rfl ?_)
      refine DT ?_ (by kernel_rfl)
      refine TN (WT ?_)
      exact ⟨_, [0], (SJ hm), rfl, k0, rfl⟩
    ·refine WN [1, 13, 14, 15, 46] rfl rfl ?_
     refine TC _ rfl (fun h19 => ?_) (fun h19 => ?_)
     ·replace hm := JA h19 hm
      refine RS (SA TK rfl (TN (WN [2] rfl rfl (TR (WB (WR ?_))))))
      obtain ⟨v20, hm, hz⟩ := II hm
      rw [hz5 _ hz] at hm
      refine WR (WB ?_)
      obtain ⟨v21, hm, hz⟩ := II hm
      rw [hz2 _ hz] at hm
      refine WR ?_
      obtain rfl := OJ hm
      exact EndsS.one _ rfl (.d _) (.refl _)
     ·replace hm := JB h19 hm
      refine TS (WK (WT (WN [1, 13, 14, 15] rfl rfl (TG ?_))))
      obtain ⟨g22, hm⟩ := GI hm
      refine SX rfl rfl (x_ar rfl rfl rfl rfl g22) (SA TK rfl (TN (WT ?_)))
      exact ⟨_, [0], (SJ hm), rfl, k0, rfl⟩
   ·replace hm := JF h6 hm
    refine twp_exit (WX ?_)
    obtain ⟨v23, hm, hz⟩ := II hm
    rw [hz5 _ hz] at hm
    refine WX (WH (WT ?_))
    exact ⟨_, [0], (SJ hm), rfl, k0, rfl⟩
  ·refine WN [] rfl rfl (RS (SA TK rfl (TN (WN [2] rfl rfl (TR ?_)))))
   obtain rfl := OJ hm
   exact EndsS.one _ rfl (.d _) (.refl _)

theorem slices_Concat_intGrow (n : Nat) (hn : n ≤ 1000000000) (mv : Nat → Bool) : Ret Tryz.prog 128 [] mv ([.nilsl, .int .i64 n].map .d) (.msl 0 1 0 0) [.flat 3 1 []] := by
 refine ret_body callB128 Tryz.func128 rfl Tryz.ntmps128 rfl rfl (fun wX gX => (twp_norm [0, 1] (sub_d rfl (sub_d rfl .nil)) (blk_nil rfl) (RS (s_rd _ rfl (mv_d (.inr rfl) rfl) (TN (twp_norm [0, 1] (sub_d rfl (sub_d rfl .nil)) (blk_nil rfl) (TQ (RS (s_rd _ rfl (mv_d (.inl rfl) rfl) ?_)))))))))
 refine s_rd _ rfl (cmp_int rfl rfl rfl rfl) (TN (twp_norm [0, 1, 6] (sub_d rfl (sub_d rfl (sub_d rfl .nil))) (blk_nil rfl) ?_))
 refine TC _ rfl (fun hneg => ?_) (fun hneg => ?_)
 ·exact absurd (of_decide_eq_true hneg) (by omega)
 ·refine TS (WT (twp_norm [0, 1] (sub_d rfl (sub_d rfl .nil)) (blk_nil rfl) (TQ (RS (s_rd _ rfl (mv_d (.inl rfl) rfl) (s_rd _ rfl (mv_d (.inl rfl) rfl) (s_rd _ rfl (cap_nil rfl sel23 rfl) (s_rd _ rfl (mv_d (.inl rfl) rfl) ?_))))))))
  refine s_rd _ rfl (len_nil rfl sel23 rfl) ?_
  refine s_rd _ rfl (arith_to (r := 0) rfl rfl rfl rfl rfl (by first | omega | (constructor <;> omega))) ?_
  refine s_rd _ rfl (arith_to (r := (n : Int)) rfl rfl rfl rfl (by omega) (by first | omega | (constructor <;> omega))) ?_
  refine s_rd _ rfl (mv_d (.inr rfl) rfl) (TN (twp_norm [0, 1] (sub_d rfl (sub_d rfl .nil)) (blk_nil rfl) (RS (s_rd _ rfl (mv_d (.inl rfl) rfl) (s_rd _ rfl (cmp_int rfl rfl rfl rfl) (TN (twp_norm [0, 1, 16] (sub_d rfl (sub_d rfl (sub_d rfl .nil))) (blk_nil rfl) ?_)))))))
  refine TC _ rfl (fun hpos => ?_) (fun hpos => ?_)
  ·have hpos : 0 < n := by simpa using hpos
   refine TG (s_rd _ rfl (mv_d (.inl rfl) rfl) (s_rd _ rfl (mv_d (.inl rfl) rfl) (s_rd _ rfl (cap_nil rfl sel23 rfl) (s_rd _ rfl (cut_nil rfl sel23 rfl rfl rfl) (s_rd _ rfl (mv_d (.inl rfl) rfl) ?_)))))
   refine s_zeros (n := n) rfl sel23 Tryz.underlying3 zero3 rfl rfl rfl hpos (by decide) (by omega) (by omega) ?_
   refine s_rd _ rfl (mv_d (.inl rfl) rfl) (s_rd _ rfl (len_nil rfl sel23 rfl) (s_rd _ rfl (rd_cut_msl 0 1 8 0 n 0 0 rfl sel23 rfl rfl rfl (Nat.le_refl _) (Nat.zero_le _)) (s_rd _ rfl (mv_msl (.inr rfl) rfl) (TN (WT (twp_norm [0] (sub_msl rfl .nil) (blk_flat rfl (blk_nil rfl)) (RS (s_rd _ rfl (mv_msl (.inl rfl) rfl) ?_))))))))
   refine s_rd _ rfl (mv_msl (.inr rfl) rfl) (TN (twp_norm [4] (sub_msl rfl .nil) (blk_flat rfl (blk_nil rfl)) (TR ?_)))
   exact ⟨_, [0], res rfl, by decide, fun i hi => absurd hi (Nat.not_lt_zero i), rfl, rfl⟩
  ·refine twp_upgrade 0 3 1 rfl (TS (WT (twp_norm [0] (sub_msl rfl .nil) (blk_flat rfl (blk_nil rfl)) (RS (s_rd _ rfl (mv_msl (.inl rfl) rfl) (s_rd _ rfl (mv_msl (.inr rfl) rfl) (TN (twp_norm [4] (sub_msl rfl .nil) (blk_flat rfl (blk_nil rfl)) ?_))))))))
   refine TR ?_
   exact ⟨_, [0], res rfl, by decide, fun i hi => absurd hi (Nat.not_lt_zero i), rfl, rfl⟩

theorem slices_Concat_intConcat (xss : List (List Int)) (hn : xss.length ≤ 1000) (ht : xss.flatten.length ≤ 1000000000) (mv : Nat → Bool) : Ret Tryz.prog 101 [] mv ([.sl 1 (xss.map fun l => .sl 1 (l.map (D.int .i64)))].map .d) (.msl 0 1 0 xss.flatten.length) [.flat 3 1 (xss.flatten.map (D.int .i64))] := by
 refine ret_body callB101 Tryz.func101 rfl Tryz.ntmps101 rfl rfl (fun wX gX => (twp_norm [0] (sub_d rfl .nil) (blk_nil rfl) (RS (s_rd _ rfl (mv_d (.inr rfl) rfl) (TN (twp_norm [0] (sub_d rfl .nil) (blk_nil rfl) (RS (s_rd _ rfl (mv_d (.inr rfl) rfl) (TN ?_)))))))))
 refine twp_norm [0, 3] (sub_d rfl (sub_d rfl .nil)) (blk_nil rfl) (TQ (RS (s_rd _ rfl (mv_d (.inl rfl) rfl) ?_)))
 refine s_rd _ rfl (by first | exact len_d rfl sel144 rfl (by first | exact List.length_map _ | rfl) | exact len_nil rfl sel144 rfl) ?_
 refine s_rd _ rfl (mv_d (.inl rfl) rfl) (TN (twp_norm [0, 3, 9, 10, 11] (sub_d rfl (sub_d rfl (sub_d rfl (sub_d rfl (sub_d rfl .nil))))) (blk_nil rfl) (TB ?_)))
 refine twp_whileK (fun i => ([(3, .d (.int .i64 ((flatTo xss i).length : Int))), (11, .d (.int .i64 ((i : Nat) : Int)))] : Fr)) (fun i => ([] : List (Nat × Blk))) (fun i => i ≤ xss.length) (fun i => xss.length - i) [3, 11] [0, 9, 10] [] 0 (by decide) (fun i hi => absurd hi (Nat.not_lt_zero i)) (Nat.zero_le _) (sub_d rfl (sub_d rfl (sub_d rfl .nil))) rfl (by rw [flat_zero]; rfl) (blk_nil rfl) rfl ?_
 rintro i hok
 refine twp_norm [3, 11, 0, 9, 10] (sub_d rfl (sub_d rfl (sub_d rfl (sub_d rfl (sub_d rfl .nil))))) (blk_nil rfl) (RS (s_rd _ rfl (cmp_int rfl rfl rfl rfl) (TN (twp_norm [0, 3, 9, 10, 11, 12] (sub_d rfl (sub_d rfl (sub_d rfl (sub_d rfl (sub_d rfl (sub_d rfl .nil)))))) (blk_nil rfl) (TQ ?_)))))
 refine TC _ rfl (fun hlt => ?_) (fun hlt => ?_)
 ·have hlt : i < xss.length := by simpa using hlt
  obtain ⟨x, hx⟩ : ∃ x, (xss)[i]? = some x := ⟨_, List.getElem?_eq_getElem (by first | exact hlt | omega | (simp; omega))⟩
  have hs := flat_succ hx
  have hle := flat_le xss (i + 1)
  refine TS (WT (twp_norm [0, 3, 9, 10, 11] (sub_d rfl (sub_d rfl (sub_d rfl (sub_d rfl (sub_d rfl .nil))))) (blk_nil rfl) (TQ (TB (RS (s_rd _ rfl (index_sl rfl sel144 rfl rfl (idx_map hx)) (s_rd _ rfl (load_ptr rfl lay23 rfl rfl) (s_rd _ rfl (mv_d (.inr rfl) rfl) ?_))))))))
  refine TN (twp_norm [0, 3, 5, 9, 10, 11] (sub_d rfl (sub_d rfl (sub_d rfl (sub_d rfl (sub_d rfl (sub_d rfl .nil)))))) (blk_nil rfl) (RS (s_rd _ rfl (mv_d (.inl rfl) rfl) (s_rd _ rfl (mv_d (.inl rfl) rfl) ?_))))
  refine s_rd _ rfl (by first | exact len_d rfl sel23 rfl (by first | exact List.length_map _ | rfl) | exact len_nil rfl sel23 rfl) ?_
  refine s_rd _ rfl (arith_to (r := ((flatTo xss (i + 1)).length : Int)) rfl rfl rfl rfl (by rw [hs]; simp) (by omega)) ?_
  refine s_rd _ rfl (mv_d (.inr rfl) rfl) (TN (twp_norm [0, 3, 9, 10, 11] (sub_d rfl (sub_d rfl (sub_d rfl (sub_d rfl (sub_d rfl .nil))))) (blk_nil rfl) (RS (s_rd _ rfl (mv_d (.inl rfl) rfl) (s_rd _ rfl (cmp_int rfl rfl rfl rfl) (TN (twp_norm [0, 3, 9, 10, 11, 20] (sub_d rfl (sub_d rfl (sub_d rfl (sub_d rfl (sub_d rfl (sub_d rfl .nil)))))) (blk_nil rfl) ?_)))))))
  refine TC _ rfl (fun hneg => ?_) (fun hneg => ?_)
  ·exact absurd (of_decide_eq_true hneg) (by omega)
  ·refine TS (WK (WT (twp_norm [0, 3, 9, 10, 11] (sub_d rfl (sub_d rfl (sub_d rfl (sub_d rfl (sub_d rfl .nil))))) (blk_nil rfl) (TG ?_))))
   refine s_rd _ rfl (arith_ok rfl rfl rfl rfl (by first | omega | (constructor <;> omega))) ?_
   refine s_rd _ rfl (mv_d (.inl rfl) rfl) (TN (WT ?_))
   exact ⟨(i + 1), [], by decide, (fun i hi => absurd hi (Nat.not_lt_zero i)), (by omega), (by omega), rfl⟩
 ·have hge : ¬ i < xss.length := by simpa using hlt
  have hi : i = xss.length := by omega
  refine twp_exit (WX (WX (WH (WT (twp_norm [0, 3] (sub_d rfl (sub_d rfl .nil)) (blk_nil rfl) (RS (s_rd _ rfl (mv_d (.inl rfl) rfl) ?_)))))))
  refine s_callD rfl rfl rfl (slices_Concat_intGrow _ (by have := flat_le xss i; omega) (fun _ => false)) rfl rfl ?_
  refine s_rd _ rfl (mv_msl (.inr rfl) rfl) (TN (twp_norm [0, 6] (sub_d rfl (sub_msl rfl .nil)) (blk_flat rfl (blk_nil rfl)) (TQ (RS (s_rd _ rfl (mv_d (.inl rfl) rfl) ?_)))))
  refine s_rd _ rfl (by first | exact len_d rfl sel144 rfl (by first | exact List.length_map _ | rfl) | exact len_nil rfl sel144 rfl) ?_
  refine s_rd _ rfl (mv_d (.inl rfl) rfl) (TN (twp_norm [6, 25, 26, 27] (sub_msl rfl (sub_d rfl (sub_d rfl (sub_d rfl .nil)))) (blk_flat rfl (blk_nil rfl)) (TB ?_)))
  refine twp_whileK (fun i => ([(6, .msl 0 1 0 (flatTo xss i).length), (27, .d (.int .i64 ((i : Nat) : Int)))] : Fr)) (fun i => ([(0, .flat 3 1 ((flatTo xss i).map (D.int .i64)))] : List (Nat × Blk))) (fun i => i ≤ xss.length) (fun i => xss.length - i) [6, 27] [25, 26] [0] 0 (by decide) (fun i hi => absurd hi (Nat.not_lt_zero i)) (Nat.zero_le _) (sub_d rfl (sub_d rfl .nil)) rfl (by rw [flat_zero]; rfl) (blk_flat rfl (blk_nil rfl)) (by rw [flat_zero]; rfl) ?_
  rintro i hok
  refine twp_norm [6, 27, 25, 26] (sub_msl rfl (sub_d rfl (sub_d rfl (sub_d rfl .nil)))) (blk_flat rfl (blk_nil rfl)) (RS (s_rd _ rfl (cmp_int rfl rfl rfl rfl) (TN (twp_norm [6, 25, 26, 27, 28] (sub_msl rfl (sub_d rfl (sub_d rfl (sub_d rfl (sub_d rfl .nil))))) (blk_flat rfl (blk_nil rfl)) (TQ ?_)))))
  refine TC _ rfl (fun hlt => ?_) (fun hlt => ?_)
  ·have hlt : i < xss.length := by simpa using hlt
   obtain ⟨x, hx⟩ : ∃ x, (xss)[i]? = some x := ⟨_, List.getElem?_eq_getElem (by first | exact hlt | omega | (simp; omega))⟩
   have hs := flat_succ hx
   have hle := flat_le xss (i + 1)
   have hsl : (flatTo xss (i + 1)).length = (flatTo xss i).length + x.length := by rw [hs]; simp
   refine TS (WT (twp_norm [6, 25, 26, 27] (sub_msl rfl (sub_d rfl (sub_d rfl (sub_d rfl .nil)))) (blk_flat rfl (blk_nil rfl)) (TQ (TB (RS (s_rd _ rfl (index_sl rfl sel144 rfl rfl (idx_map hx)) (s_rd _ rfl (load_ptr rfl lay23 rfl rfl) (s_rd _ rfl (mv_d (.inr rfl) rfl) ?_))))))))
   refine TN (twp_norm [6, 8, 25, 26, 27] (sub_msl rfl (sub_d rfl (sub_d rfl (sub_d rfl (sub_d rfl .nil))))) (blk_flat rfl (blk_nil rfl)) (TG (s_rd _ rfl (mv_msl (.inl rfl) rfl) (s_rd _ rfl (mv_d (.inl rfl) rfl) ?_))))
   refine s_append (m := (flatTo xss (i + 1)).length) (ds := x.map (D.int .i64)) (es' := (flatTo xss (i + 1)).map (D.int .i64)) rfl sel23 zero3 rfl rfl rfl (by simp) (fun h => absurd h (Nat.not_lt_zero _)) rfl ⟨rfl, (by first | rfl | (simp [List.map_take, List.map_drop]; done) | (rw [← List.map_drop, List.take_of_length_le (by simp)]))⟩ (by rw [hs]; simp) (by simp; omega) (by omega) (by omega) rfl rfl ?_
   refine s_rd _ rfl (mv_msl (.inr rfl) rfl) (TN (WK (WT (twp_norm [6, 25, 26, 27] (sub_msl rfl (sub_d rfl (sub_d rfl (sub_d rfl .nil)))) (blk_flat rfl (blk_nil rfl)) (TG ?_)))))
   refine s_rd _ rfl (arith_ok rfl rfl rfl rfl (by first | omega | (constructor <;> omega))) ?_
   refine s_rd _ rfl (mv_d (.inl rfl) rfl) (TN (WT ?_))
   exact ⟨(i + 1), [0], by decide, (fun i hi => absurd hi (Nat.not_lt_zero i)), (by omega), (by omega), rfl⟩
  ·have hge : ¬ i < xss.length := by simpa using hlt
   have hi : i = xss.length := by omega
   have hall := flat_all hge
   refine twp_exit (WX (WX (WH (WT (twp_norm [6] (sub_msl rfl .nil) (blk_flat rfl (blk_nil rfl)) (RS (s_rd _ rfl (mv_msl (.inl rfl) rfl) (s_rd _ rfl (mv_msl (.inr rfl) rfl) ?_))))))))
   refine TN (twp_norm [2] (sub_msl rfl .nil) (blk_flat rfl (blk_nil rfl)) (TR ?_))
   rw [hall]
   exact ⟨_, [0], res rfl, by decide, fun i hi => absurd hi (Nat.not_lt_zero i), rfl, rfl⟩

theorem slices_Concat_int_c {p0 : List (List Int)} {r : List Int} (hm : slices_Concat_int p0 = some r) : RetN Tryz.prog 101 [.sl 1 (p0.map (fun l => D.sl 1 (l.map (D.int .i64))))] (.sl 1 (r.map (D.int .i64))) := by
 unfold slices_Concat_int at hm
 obtain ⟨g, hm⟩ := GI hm
 obtain rfl := OJ hm
 exact .flat (slices_Concat_intConcat p0 g.1 g.2 (fun _ => false)) (by rw [List.length_map]) (fun e he => by obtain ⟨x, _, rfl⟩ := List.mem_map.1 he; rfl)

theorem table_routeRight_c {p0 : Table} {p1 : Route} {r : Bool} (hm : table_routeRight p0 p1 = some r) : RetN Tryz.prog 58 [p0.enc, p1.enc] (.bool (r)) := by
 refine .unit (ret_bodyS callB58 Tryz.func58 rfl Tryz.ntmps58 rfl rfl (fun wX gX => ?_)) rfl
 unfold table_routeRight at hm
 refine WN [0, 1] rfl rfl (RS (s_bx 0 rfl rfl rfl (s_bx 1 rfl rfl rfl (SA TK rfl (TN (WN [2, 3] rfl rfl (TQ ?_)))))))
 refine w_joinM hm (fun x1 => ([(26, .d (.bool (x1)))] : Fr)) (fun x1 => ([] : List (Nat × Blk))) [26] [2, 3] rfl (fun z2 hm => ?_) (fun x1 hm => ?_)
 ·refine TG ?_
  iterate 4 (refine SA TK rfl ?_)
  obtain ⟨r3, hr3, hm⟩ := BI hm
  refine SX rfl rfl (RN rfl rfl (SC (.d _) (SC (.d _) SN)) (table_within_c hr3)) (SA TK rfl (SB TK rfl (fun q4 hq4 => ?_)))
  cases q4
  ·replace hm := JB hq4 hm
   refine SA TK rfl (SA TK rfl (SA TK rfl (SB TK rfl (fun q5 hq5 => ?_))))
   cases q5
   ·replace hm := iteN_F hq5 hm
    iterate 8 (refine SA TK rfl ?_)
    refine TN (WT ?_)
    exact ⟨_, [0, 1], (SJ hm), rfl, k0, rfl⟩
   ·replace hm := iteN_T hq5 hm
    iterate 4 (refine SA TK rfl ?_)
    obtain ⟨r6, hr6, hm⟩ := BI hm
    refine SX rfl rfl (RN rfl rfl (SC (.d _) (SC (.d _) SN)) (table_within_c hr6)) (SA TK rfl (SA TK rfl (SA TK rfl (TN (WT ?_)))))
    exact ⟨_, [0, 1], (SJ hm), rfl, k0, rfl⟩
  ·replace hm := JA hq4 hm
   iterate 12 (refine SA TK rfl ?_)
   refine TN (WT ?_)
   exact ⟨_, [0, 1], (SJ hm), rfl, k0, rfl⟩
 ·refine WN [2, 3, 26] rfl rfl ?_
  refine TC _ rfl (fun h7 => ?_) (fun h7 => ?_)
  ·replace hm := JA h7 hm
   refine RS (SA TK rfl (TN (WN [4] rfl rfl (TR (WR ?_)))))
   obtain rfl := OJ hm
   exact EndsS.one _ rfl (.d _) (.refl _)
  ·replace hm := JB h7 hm
   refine TS (WT (WN [2, 3] rfl rfl (TQ ?_)))
   refine w_cut [(42, .d (.bool (((decide ((p1.path.length : Int) < (1 : Int))) || ((decide ((12 : Int) < (p1.path.length : Int))) || (decide ((p1.sections.length : Int) = (0 : Int))))))))] [42] [2, 3] rfl ?_ ?_
   ·refine TG (SA TK rfl (SA TK rfl (SX rfl rfl (x_len TK rfl rfl rfl) (SA TK rfl (SB TK rfl (fun q8 hq8 => ?_))))))
    cases q8
    ·refine SA TK rfl (SA TK rfl (SX rfl rfl (x_len TK rfl rfl rfl) (SA TK rfl (SA TK rfl (SB TK rfl (fun q9 hq9 => ?_))))))
     cases q9
     ·refine SA TK rfl (SA TK rfl (SX rfl rfl (x_len TK rfl rfl rfl) (SA TK rfl (SA TK rfl (TN (WT ?_))))))
      exact ⟨[0, 1], rfl, k0, st_eq (fr_cons (av_bool (by simp [hq8, hq9])) rfl) rfl⟩
     ·iterate 5 (refine SA TK rfl ?_)
      refine TN (WT ?_)
      exact ⟨[0, 1], rfl, k0, st_eq (fr_cons (av_bool (by simp [hq8, hq9])) rfl) rfl⟩
    ·iterate 11 (refine SA TK rfl ?_)
     refine TN (WT ?_)
     exact ⟨[0, 1], rfl, k0, st_eq (fr_cons (av_bool (by simp [hq8])) rfl) rfl⟩
   ·refine WN [2, 3, 42] rfl rfl ?_
    refine TC _ rfl (fun h10 => ?_) (fun h10 => ?_)
    ·replace hm := JA h10 hm
     refine RS (SA TK rfl (TN (WN [4] rfl rfl (TR (WR ?_)))))
     obtain rfl := OJ hm
     exact EndsS.one _ rfl (.d _) (.refl _)
    ·replace hm := JB h10 hm
     refine TS (WT (WN [2, 3] rfl rfl (RS (s_ala (f := D.bool) (x := false) 2 23 rfl rfl zero121 rfl rfl rfl (TN (WN [2, 3, 5] rfl rfl ?_))))))
     refine w_joinS hm (fun b11 => ([] : Fr)) (fun b11 => ([(2, .flat 121 1 (b11.map D.bool))] : List (Nat × Blk))) [] [2, 3] rfl (fun z12 hm hz12 => ?_) (fun b11 hm => ?_)
     ·refine RS ?_
      iterate 4 (refine SA TK rfl ?_)
      refine SX rfl rfl (x_lit [.tmp 44, .tmp 46] TK rfl rfl zero23 rfl rfl rfl rfl rfl) ?_
      obtain ⟨r13, hr13, hm⟩ := BI hm
      refine SX rfl rfl (RN rfl rfl (SC (.d _) SN) (slices_Concat_int_c hr13)) (SX rfl rfl (x_len TK rfl rfl rfl) (SA TK rfl (TN (WN [2, 3, 5, 48, 49, 50] rfl rfl (TB (w_loop hm (fun (x17, b18) => ([(50, .d (.int .i64 x17))] : Fr)) (fun (x17, b18) => ([(2, .flat 121 1 (b18.map D.bool))] : List (Nat × Blk))) [50] [2, 3, 5, 48, 49] [0, 1, 2] rfl k0 rfl rfl rfl rfl rfl (fun s z19 hm hz19 => ?_)))))))
      obtain ⟨x17, b18⟩ := s
      refine WN [2, 3, 5, 48, 49, 50] rfl rfl (RS (SA TK rfl (TN (WN [2, 3, 5, 48, 49, 50, 51] rfl rfl (TQ ?_)))))
      refine TC _ rfl (fun h20 => ?_) (fun h20 => ?_)
      ·replace hm := JT h20 hm
       refine TS (WT (WN [2, 3, 5, 48, 49, 50] rfl rfl (TQ (TB (RS ?_)))))
       obtain ⟨e21, he21, hm⟩ := GV hm
       refine SX rfl rfl (x_ix TK rfl rfl rfl rfl he21) (SA TK rfl (SA TK rfl (TN (WN [2, 3, 5, 7, 48, 49, 50] rfl rfl (TQ ?_)))))
       refine w_joinM hm (fun x22 => ([(63, .d (.bool (x22)))] : Fr)) (fun x22 => ([] : List (Nat × Blk))) [63] [2, 3, 5, 7, 48, 49, 50] rfl (fun z23 hm => ?_) (fun x22 hm => ?_)
       ·refine TG (SA TK rfl (SA TK rfl (SA TK rfl ?_)))
        obtain ⟨r24, hr24, hm⟩ := BI hm
        refine SX rfl rfl (RN rfl rfl (SC (.d _) (SC (.d _) SN)) (table_within_c hr24)) (SA TK rfl (SB TK rfl (fun q25 hq25 => ?_)))
        cases q25
        ·replace hm := JB hq25 hm
         refine SA TK rfl ?_
         obtain ⟨g27, hm⟩ := GI hm
         obtain ⟨e26, he26, hm⟩ := GV hm
         refine SX rfl rfl (x_ixa rfl asel121 rfl rfl he26 g27) (SX rfl rfl (x_ldo TK rfl rfl rfl rfl he26.2 rfl) (SA TK rfl (TN (WT ?_))))
         exact ⟨_, [0, 1, 2], (SJ hm), rfl, k0, rfl⟩
        ·replace hm := JA hq25 hm
         iterate 4 (refine SA TK rfl ?_)
         refine TN (WT ?_)
         exact ⟨_, [0, 1, 2], (SJ hm), rfl, k0, rfl⟩
       ·refine WN [2, 3, 5, 7, 48, 49, 50, 63] rfl rfl ?_
        refine TC _ rfl (fun h28 => ?_) (fun h28 => ?_)
        ·replace hm := JA h28 hm
         refine RS (SA TK rfl (TN (WN [4] rfl rfl (TR (WR (WB (WR ?_)))))))
         obtain ⟨v29, hm, hz⟩ := II hm
         rw [hz19 _ hz] at hm
         refine WR (WB ?_)
         obtain ⟨v30, hm, hz⟩ := II hm
         rw [hz12 _ hz] at hm
         refine WR ?_
         obtain rfl := OJ hm
         exact EndsS.one _ rfl (.d _) (.refl _)
        ·replace hm := JB h28 hm
         refine TS (WT (WN [2, 3, 5, 7, 48, 49, 50] rfl rfl (TG (SA TK rfl ?_))))
         obtain ⟨g32, hm⟩ := GI hm
         obtain ⟨e31, he31, hm⟩ := GV hm
         refine SX rfl rfl (x_ixa rfl asel121 rfl rfl he31 g32) (s_sto (x' := true) TK rfl rfl rfl rfl rfl he31.2 rfl rfl rfl (TN (WK (WT (WN [2, 3, 5, 48, 49, 50] rfl rfl (TG ?_))))))
         obtain ⟨g33, hm⟩ := GI hm
         refine SX rfl rfl (x_ar rfl rfl rfl rfl g33) (SA TK rfl (TN (WT ?_)))
         exact ⟨_, [0, 1, 2], (SJ hm), rfl, k0, rfl⟩
      ·replace hm := JF h20 hm
       refine twp_exit (WX ?_)
       obtain ⟨v34, hm, hz⟩ := II hm
       rw [hz19 _ hz] at hm
       refine WX (WH (WT ?_))
       exact ⟨_, [0, 1, 2], (SJ hm), rfl, k0, rfl⟩
     ·refine WN [2, 3] rfl rfl ?_
      refine w_joinM hm (fun x35 => ([(4, .d (.bool (x35)))] : Fr)) (fun x35 => ([] : List (Nat × Blk))) [4] [] rfl (fun z36 hm => ?_) (fun x35 hm => ?_)
      ·refine TG ?_
       iterate 4 (refine SA TK rfl ?_)
       obtain ⟨r37, hr37, hm⟩ := BI hm
       refine SX rfl rfl (RN rfl rfl (SC (.d _) (SC (.d _) SN)) (table_within_c hr37)) (SB TK rfl (fun q38 hq38 => ?_))
       cases q38
       ·replace hm := JB hq38 hm
        iterate 5 (refine SA TK rfl ?_)
        refine TN (WT ?_)
        exact ⟨_, [0, 1, 2], (SJ hm), rfl, k0, rfl⟩
       ·replace hm := JA hq38 hm
        iterate 5 (refine SA TK rfl ?_)
        refine TN (WT ?_)
        exact ⟨_, [0, 1, 2], (SJ hm), rfl, k0, rfl⟩
      ·refine WN [4] rfl rfl (TR ?_)
       obtain rfl := OJ hm
       exact EndsS.one _ rfl (.d _) (.refl _)

theorem slices_Index_int_c {p0 : (List Int)} {p1 : Int} {r : Int} (hm : slices_Index_int p0 p1 = some r) : RetN Tryz.prog 100 [.sl 1 (p0.map (D.int .i64)), .int .i64 p1] (.int .i64 r) := by
 refine .unit (ret_bodyS callB100 Tryz.func100 rfl Tryz.ntmps100 rfl rfl (fun wX gX => ?_)) rfl
 unfold slices_Index_int at hm
 refine WN [0, 1] rfl rfl (RS (SA TK rfl (TN (WN [0, 1] rfl rfl ?_))))
 refine w_joinS hm (fun _ => ([] : Fr)) (fun _ => ([] : List (Nat × Blk))) [] [] rfl (fun z1 hm hz1 => ?_) (fun j hm => ?_)
 ·refine RS (SA TK rfl (SX rfl rfl (x_len TK rfl rfl rfl) (SA TK rfl (TN (WN [0, 1, 7, 8] rfl rfl (TB (w_loop hm (fun x3 => ([(8, .d (.int .i64 x3))] : Fr)) (fun x3 => ([] : List (Nat × Blk))) [8] [0, 1, 7] [] rfl k0 rfl rfl rfl rfl rfl (fun x3 z4 hm hz4 => (WN [0, 1, 7, 8] rfl rfl ?_)))))))))
  refine RS (SA TK rfl (TN (WN [0, 1, 7, 8, 9] rfl rfl (TQ ?_))))
  refine TC _ rfl (fun h5 => ?_) (fun h5 => ?_)
  ·replace hm := JT h5 hm
   refine TS (WT (WN [0, 1, 7, 8] rfl rfl (TQ (TB (RS (SA TK rfl (SA TK rfl (TN (WN [0, 1, 5, 7, 8] rfl rfl ?_)))))))))
   refine RS (SA TK rfl (SA TK rfl (SA TK rfl ?_)))
   obtain ⟨e6, he6, hm⟩ := GV hm
   refine SX rfl rfl (x_ix TK rfl rfl rfl rfl he6) (SA TK rfl (SA TK rfl (TN (WN [0, 1, 5, 7, 8, 16] rfl rfl ?_))))
   refine TC _ rfl (fun h7 => ?_) (fun h7 => ?_)
   ·replace hm := JT h7 hm
    refine RS (SA TK rfl (SA TK rfl (TN (WN [4] rfl rfl (TR (WB (WR ?_)))))))
    obtain ⟨v8, hm, hz⟩ := II hm
    rw [hz4 _ hz] at hm
    refine WR (WB ?_)
    obtain ⟨v9, hm, hz⟩ := II hm
    rw [hz1 _ hz] at hm
    refine WR ?_
    obtain rfl := OJ hm
    exact EndsS.one _ rfl (.d _) (.refl _)
   ·replace hm := JF h7 hm
    refine TS (WK (WT (WN [0, 1, 7, 8] rfl rfl (TG ?_))))
    obtain ⟨g10, hm⟩ := GI hm
    refine SX rfl rfl (x_ar rfl rfl rfl rfl g10) (SA TK rfl (TN (WT ?_)))
    exact ⟨_, [], (SJ hm), rfl, k0, rfl⟩
  ·replace hm := JF h5 hm
   refine twp_exit (WX ?_)
   obtain ⟨v11, hm, hz⟩ := II hm
   rw [hz4 _ hz] at hm
   refine WX (WH (WT ?_))
   exact ⟨_, [], (SJ hm), rfl, k0, rfl⟩
 ·refine WN [] rfl rfl (RS (SA TK rfl (TN (WN [4] rfl rfl (TR ?_)))))
  obtain rfl := OJ hm
  exact EndsS.one _ rfl (.d _) (.refl _)

theorem table_Index_c {p0 : Table} {p1 : Int} {r : Int} (hm : table_Index p0 p1 = some r) : RetN Tryz.prog 55 [p0.enc, .int .i64 p1] (.int .i64 r) := by
 refine .unit (ret_bodyS callB55 Tryz.func55 rfl Tryz.ntmps55 rfl rfl (fun wX gX => ?_)) rfl
 unfold table_Index at hm
 refine WN [0, 1] rfl rfl (RS (s_bx 0 rfl rfl rfl (SA TK rfl (TN (WN [1, 2] rfl rfl (RS (SA TK rfl (SA TK rfl (SA TK rfl ?_)))))))))
 obtain ⟨r1, hr1, hm⟩ := BI hm
 refine SX rfl rfl (RN rfl rfl (SC (.d _) (SC (.d _) SN)) (slices_Index_int_c hr1)) (SA TK rfl (TN (WN [4] rfl rfl (TR ?_))))
 obtain rfl := OJ hm
 exact EndsS.one _ rfl (.d _) (.refl _)

theorem table_settingsRight_c {p0 : Table} {p1 : (List Setting)} {r : Bool} (hm : table_settingsRight p0 p1 = some r) : RetN Tryz.prog 59 [p0.enc, .sl 2 (p1.map Setting.enc)] (.bool (r)) := by
 refine .unit (ret_bodyS callB59 Tryz.func59 rfl Tryz.ntmps59 rfl rfl (fun wX gX => ?_)) rfl
 unfold table_settingsRight at hm
 refine WN [0, 1] rfl rfl (RS (s_bx 0 rfl rfl rfl (SA TK rfl (TN (WN [1, 2] rfl rfl ?_)))))
 refine w_joinS hm (fun _ => ([] : Fr)) (fun _ => ([] : List (Nat × Blk))) [] [] rfl (fun z1 hm hz1 => ?_) (fun j hm => ?_)
 ·refine RS (SA TK rfl (SX rfl rfl (x_len TK rfl rfl rfl) (SA TK rfl (TN (WN [1, 2, 7, 8, 9] rfl rfl (TB (w_loop hm (fun x3 => ([(9, .d (.int .i64 x3))] : Fr)) (fun x3 => ([] : List (Nat × Blk))) [9] [1, 2, 7, 8] [0] rfl k0 rfl rfl rfl rfl rfl (fun x3 z4 hm hz4 => (WN [1, 2, 7, 8, 9] rfl rfl ?_)))))))))
  refine RS (SA TK rfl (TN (WN [1, 2, 7, 8, 9, 10] rfl rfl (TQ ?_))))
  refine TC _ rfl (fun h5 => ?_) (fun h5 => ?_)
  ·replace hm := JT h5 hm
   refine TS (WT (WN [1, 2, 7, 8, 9] rfl rfl (TQ (TB (RS (SA TK rfl ?_))))))
   obtain ⟨e6, he6, hm⟩ := GV hm
   refine SX rfl rfl (x_ix TK rfl rfl rfl rfl he6) (SA TK rfl (s_al 1 rfl rfl zero73 rfl (SA TK rfl (SA TK rfl (TN (WN [1, 2, 5, 6, 7, 8, 9] rfl rfl (TQ ?_)))))))
   refine w_joinM hm (fun x7 => ([(33, .d (.bool (x7)))] : Fr)) (fun x7 => ([] : List (Nat × Blk))) [33] [1, 2, 6, 7, 8, 9] rfl (fun z8 hm => ?_) (fun x7 hm => ?_)
   ·refine twp_draw follows  ?_
    iterate 2 (refine DA [0, 1] TK rfl ?_)
    refine d_b [0, 1] TK rfl (fun q9 hq9 => ?_)
    cases q9
    ·replace hm := JF hq9 hm
     iterate 14 (refine DA [0, 1] TK rfl ?_)
     obtain ⟨r10, hr10, hm⟩ := BI hm
     refine DX [0, 1] rfl rfl (RN rfl rfl (SC (.d _) (SC (.d _) SN)) (table_Index_c hr10)) ?_
     iterate 2 (refine DA [0, 1] TK rfl ?_)
     refine DT ?_ (by kernel_rfl)
     refine TN (WT ?_)
     exact ⟨_, [0, 1], (SJ hm), rfl, k0, rfl⟩
    ·replace hm := JT hq9 hm
     iterate 4 (refine DA [0, 1] TK rfl ?_)
     obtain ⟨g11, hm⟩ := GI hm
     refine DX [0, 1] rfl rfl (x_ar rfl rfl rfl rfl g11) ?_
     obtain ⟨e12, he12, hm⟩ := GV hm
     refine DX [0, 1] rfl rfl (x_ix TK rfl rfl rfl rfl he12) ?_
     iterate 4 (refine DA [0, 1] TK rfl ?_)
     refine d_b [0, 1] TK rfl (fun q13 hq13 => ?_)
     cases q13
     ·replace hm := JF hq13 hm
      iterate 3 (refine DA [0, 1] TK rfl ?_)
      obtain ⟨r14, hr14, hm⟩ := BI hm
      refine DX [0, 1] rfl rfl (RN rfl rfl (SC (.d _) (SC (.d _) SN)) (table_Index_c hr14)) ?_
      iterate 2 (refine DA [0, 1] TK rfl ?_)
      refine DT ?_ (by kernel_rfl)
      refine TN (WT ?_)
      exact ⟨_, [0, 1], (SJ hm), rfl, k0, rfl⟩
     ·replace hm := JT hq13 hm
      iterate 6 (refine DA [0, 1] TK rfl ?_)
      refine DT ?_ (by kernel_rfl)
      refine TN (WT ?_)
      exact ⟨_, [0, 1], (SJ hm), rfl, k0, rfl⟩
   ·refine WN [1, 2, 6, 7, 8, 9, 33] rfl rfl ?_
    refine TC _ rfl (fun h15 => ?_) (fun h15 => ?_)
    ·replace hm := JA h15 hm
     refine RS (SA TK rfl (TN (WN [4] rfl rfl (TR (WR (WB (WR ?_)))))))
     obtain ⟨v16, hm, hz⟩ := II hm
     rw [hz4 _ hz] at hm
     refine WR (WB ?_)
     obtain ⟨v17, hm, hz⟩ := II hm
     rw [hz1 _ hz] at hm
     refine WR ?_
     obtain rfl := OJ hm
     exact EndsS.one _ rfl (.d _) (.refl _)
    ·replace hm := JB h15 hm
     refine TS (WT (WN [1, 2, 6, 7, 8, 9] rfl rfl ?_))
     refine w_cut [(41, .d (.bool (((!(decide (e6.pos = (1 : Int)))) && (!(decide (e6.pos = (2 : Int))))))))] [41] [1, 2, 7, 8, 9] rfl ?_ ?_
     ·refine TG (SA TK rfl (SA TK rfl (SA TK rfl (SB TK rfl (fun q18 hq18 => ?_)))))
      cases q18
      ·iterate 4 (refine SA TK rfl ?_)
       refine TN (WT ?_)
       exact ⟨[0, 1], rfl, k0, st_eq (fr_cons (av_bool (by simp [hq18])) rfl) rfl⟩
      ·iterate 4 (refine SA TK rfl ?_)
       refine TN (WT ?_)
       exact ⟨[0, 1], rfl, k0, st_eq (fr_cons (av_bool (by simp [hq18])) rfl) rfl⟩
     ·refine WN [1, 2, 7, 8, 9, 41] rfl rfl ?_
      refine TC _ rfl (fun h19 => ?_) (fun h19 => ?_)
      ·replace hm := JA h19 hm
       refine RS (SA TK rfl (TN (WN [4] rfl rfl (TR (WB (WR ?_))))))
       obtain ⟨v20, hm, hz⟩ := II hm
       rw [hz4 _ hz] at hm
       refine WR (WB ?_)
       obtain ⟨v21, hm, hz⟩ := II hm
       rw [hz1 _ hz] at hm
       refine WR ?_
       obtain rfl := OJ hm
       exact EndsS.one _ rfl (.d _) (.refl _)
      ·replace hm := JB h19 hm
       refine TS (WK (WT (WN [1, 2, 7, 8, 9] rfl rfl (TG ?_))))
       obtain ⟨g22, hm⟩ := GI hm
       refine SX rfl rfl (x_ar rfl rfl rfl rfl g22) (SA TK rfl (TN (WT ?_)))
       exact ⟨_, [0], (SJ hm), rfl, k0, rfl⟩
  ·replace hm := JF h5 hm
   refine twp_exit (WX ?_)
   obtain ⟨v23, hm, hz⟩ := II hm
   rw [hz4 _ hz] at hm
   refine WX (WH (WT ?_))
   exact ⟨_, [0], (SJ hm), rfl, k0, rfl⟩
 ·refine WN [] rfl rfl (RS (SA TK rfl (TN (WN [4] rfl rfl (TR ?_)))))
  obtain rfl := OJ hm
  exact EndsS.one _ rfl (.d _) (.refl _)

end Go.Proofs.YtdhicpmpefkojaaGreat

set_option maxHeartbeats 8000000
set_option linter.unusedSimpArgs false
set_option linter.unusedVariables false
set_option maxRecDepth 20000
namespace Go.Proofs.YtdhicpmpefkojaaGreat
open Go Go.TL

theorem conflict_Agree_c {p0 : (List Setting)} {p1 : (List Setting)} {r : Bool} (hm : conflict_Agree p0 p1 = some r) : RetN Tryz.prog 60 [.sl 2 (p0.map Setting.enc), .sl 2 (p1.map Setting.enc)] (.bool (r)) := by
 refine .unit (ret_bodyS callB60 Tryz.func60 rfl Tryz.ntmps60 rfl rfl (fun wX gX => ?_)) rfl
 unfold conflict_Agree at hm
 refine WN [0, 1] rfl rfl (RS (SA TK rfl (TN (WN [0, 1] rfl rfl ?_))))
 refine w_joinS hm (fun _ => ([] : Fr)) (fun _ => ([] : List (Nat × Blk))) [] [] rfl (fun z1 hm hz1 => ?_) (fun j hm => ?_)
 ·refine RS (SA TK rfl (SX rfl rfl (x_len TK rfl rfl rfl) (SA TK rfl (TN (WN [1, 9, 10, 11] rfl rfl (TB (w_loop hm (fun x3 => ([(11, .d (.int .i64 x3))] : Fr)) (fun x3 => ([] : List (Nat × Blk))) [11] [1, 9, 10] [] rfl k0 rfl rfl rfl rfl rfl (fun x3 z4 hm hz4 => (WN [1, 9, 10, 11] rfl rfl ?_)))))))))
  refine RS (SA TK rfl (TN (WN [1, 9, 10, 11, 12] rfl rfl (TQ ?_))))
  refine TC _ rfl (fun h5 => ?_) (fun h5 => ?_)
  ·replace hm := JT h5 hm
   refine TS (WT (WN [1, 9, 10, 11] rfl rfl ?_))
   refine w_joinS hm (fun _ => ([] : Fr)) (fun _ => ([] : List (Nat × Blk))) [] [1, 9, 10, 11] rfl (fun z6 hm hz6 => ?_) (fun j hm => ?_)
   ·refine TB (RS ?_)
    obtain ⟨e7, he7, hm⟩ := GV hm
    refine SX rfl rfl (x_ix TK rfl rfl rfl rfl he7) (SA TK rfl (s_al 0 rfl rfl zero73 rfl (SA TK rfl (TN (WN [1, 6, 9, 10, 11] rfl rfl (RS (SA TK rfl (SX rfl rfl (x_len TK rfl rfl rfl) ?_))))))))
    refine SA TK rfl (TN (WN [1, 6, 9, 10, 11, 15, 16, 17] rfl rfl (TB (w_loop hm (fun x9 => ([(17, .d (.int .i64 x9))] : Fr)) (fun x9 => ([] : List (Nat × Blk))) [17] [1, 6, 9, 10, 11, 15, 16] [0] rfl k0 rfl rfl rfl rfl rfl (fun x9 z10 hm hz10 => (WN [1, 6, 9, 10, 11, 15, 16, 17] rfl rfl (RS (SA TK rfl (TN ?_)))))))))
    refine WN [1, 6, 9, 10, 11, 15, 16, 17, 18] rfl rfl (TQ ?_)
    refine TC _ rfl (fun h11 => ?_) (fun h11 => ?_)
    ·replace hm := JT h11 hm
     refine TS (WT (WN [1, 6, 9, 10, 11, 15, 16, 17] rfl rfl (TQ (TB (RS ?_)))))
     obtain ⟨e12, he12, hm⟩ := GV hm
     refine SX rfl rfl (x_ix TK rfl rfl rfl rfl he12) (SA TK rfl (s_al 1 rfl rfl zero73 rfl (SA TK rfl (TN (WN [1, 6, 8, 9, 10, 11, 15, 16, 17] rfl rfl ?_)))))
     refine w_cut [(32, .d (.bool (((decide (e7.el = e12.el)) && (!(decide (e7.pos = e12.pos)))))))] [32] [1, 6, 9, 10, 11, 15, 16, 17] rfl ?_ ?_
     ·refine TG ?_
      iterate 5 (refine SA TK rfl ?_)
      refine SB TK rfl (fun q13 hq13 => ?_)
      cases q13
      ·iterate 6 (refine SA TK rfl ?_)
       refine TN (WT ?_)
       exact ⟨[0, 1], rfl, k0, st_eq (fr_cons (av_bool (by simp [hq13])) rfl) rfl⟩
      ·iterate 6 (refine SA TK rfl ?_)
       refine TN (WT ?_)
       exact ⟨[0, 1], rfl, k0, st_eq (fr_cons (av_bool (by simp [hq13])) rfl) rfl⟩
     ·refine WN [1, 6, 9, 10, 11, 15, 16, 17, 32] rfl rfl ?_
      refine TC _ rfl (fun h14 => ?_) (fun h14 => ?_)
      ·replace hm := JA h14 hm
       refine RS (SA TK rfl (TN (WN [4] rfl rfl (TR (WB (WR ?_))))))
       obtain ⟨v15, hm, hz⟩ := II hm
       rw [hz10 _ hz] at hm
       refine WR (WB (WB ?_))
       obtain ⟨v16, hm, hz⟩ := II hm
       rw [hz6 _ hz] at hm
       refine WR ?_
       obtain ⟨v17, hm, hz⟩ := II hm
       rw [hz4 _ hz] at hm
       refine WR (WB ?_)
       obtain ⟨v18, hm, hz⟩ := II hm
       rw [hz1 _ hz] at hm
       refine WR ?_
       obtain rfl := OJ hm
       exact EndsS.one _ rfl (.d _) (.refl _)
      ·replace hm := JB h14 hm
       refine TS (WK (WT (WN [1, 6, 9, 10, 11, 15, 16, 17] rfl rfl (TG ?_))))
       obtain ⟨g19, hm⟩ := GI hm
       refine SX rfl rfl (x_ar rfl rfl rfl rfl g19) (SA TK rfl (TN (WT ?_)))
       exact ⟨_, [0], (SJ hm), rfl, k0, rfl⟩
    ·replace hm := JF h11 hm
     refine twp_exit (WX ?_)
     obtain ⟨v20, hm, hz⟩ := II hm
     rw [hz10 _ hz] at hm
     refine WX (WH (WK (WT ?_)))
     exact ⟨_, [], (SJ hm), rfl, k0, rfl⟩
   ·refine WN [1, 9, 10, 11] rfl rfl (TG ?_)
    obtain ⟨g21, hm⟩ := GI hm
    refine SX rfl rfl (x_ar rfl rfl rfl rfl g21) (SA TK rfl (TN (WT ?_)))
    exact ⟨_, [], (SJ hm), rfl, k0, rfl⟩
  ·replace hm := JF h5 hm
   refine twp_exit (WX ?_)
   obtain ⟨v22, hm, hz⟩ := II hm
   rw [hz4 _ hz] at hm
   refine WX (WH (WT ?_))
   exact ⟨_, [], (SJ hm), rfl, k0, rfl⟩
 ·refine WN [] rfl rfl (RS (SA TK rfl (TN (WN [4] rfl rfl (TR ?_)))))
  obtain rfl := OJ hm
  exact EndsS.one _ rfl (.d _) (.refl _)

theorem table_Check_c {p0 : Table} {r : Int} (hm : table_Check p0 = some r) : RetN Tryz.prog 29 [p0.enc] (.int .i64 r) := by
 refine .unit (ret_bodyS callB29 Tryz.func29 rfl Tryz.ntmps29 rfl rfl (fun wX gX => ?_)) rfl
 unfold table_Check at hm
 refine WN [0] rfl rfl (RS (s_bx 0 rfl rfl rfl (SA TK rfl (TN (WN [1] rfl rfl (TQ ?_))))))
 refine w_joinM hm (fun x1 => ([(33, .d (.bool (x1)))] : Fr)) (fun x1 => ([] : List (Nat × Blk))) [33] [1] rfl (fun z2 hm => ?_) (fun x1 hm => ?_)
 ·refine TG (SA TK rfl (SA TK rfl (SX rfl rfl (x_len TK rfl rfl rfl) (SA TK rfl (SB TK rfl (fun q3 hq3 => ?_))))))
  cases q3
  ·replace hm := JF hq3 hm
   refine SA TK rfl (SA TK rfl (SX rfl rfl (x_len TK rfl rfl rfl) (SA TK rfl (SA TK rfl (SB TK rfl (fun q4 hq4 => ?_))))))
   cases q4
   ·replace hm := JF hq4 hm
    refine SA TK rfl (SA TK rfl ?_)
    obtain ⟨r5, hr5, hm⟩ := BI hm
    refine SX rfl rfl (RN rfl rfl (SC (.d _) (SC (.d _) SN)) (table_within_c hr5)) (SA TK rfl (SA TK rfl (SB TK rfl (fun q6 hq6 => ?_))))
    cases q6
    ·replace hm := JB hq6 hm
     refine SA TK rfl (SA TK rfl ?_)
     obtain ⟨r7, hr7, hm⟩ := BI hm
     refine SX rfl rfl (RN rfl rfl (SC (.d _) (SC (.d _) SN)) (table_within_c hr7)) (SA TK rfl (SA TK rfl (TN (WT ?_))))
     exact ⟨_, [0], (SJ hm), rfl, k0, rfl⟩
    ·replace hm := JA hq6 hm
     iterate 5 (refine SA TK rfl ?_)
     refine TN (WT ?_)
     exact ⟨_, [0], (SJ hm), rfl, k0, rfl⟩
   ·replace hm := JT hq4 hm
    iterate 11 (refine SA TK rfl ?_)
    refine TN (WT ?_)
    exact ⟨_, [0], (SJ hm), rfl, k0, rfl⟩
  ·replace hm := JT hq3 hm
   iterate 17 (refine SA TK rfl ?_)
   refine TN (WT ?_)
   exact ⟨_, [0], (SJ hm), rfl, k0, rfl⟩
 ·refine WN [1, 33] rfl rfl ?_
  refine TC _ rfl (fun h8 => ?_) (fun h8 => ?_)
  ·replace hm := JA h8 hm
   refine RS (SA TK rfl (TN (WN [2] rfl rfl (TR (WR ?_)))))
   obtain rfl := OJ hm
   exact EndsS.one _ rfl (.d _) (.refl _)
  ·replace hm := JB h8 hm
   refine TS (WT (WN [1] rfl rfl (TQ (RS (SA TK rfl ?_)))))
   obtain ⟨r9, hr9, hm⟩ := BI hm
   refine SX rfl rfl (RN rfl rfl (SC (.d _) SN) (table_pointsRight_c hr9)) (SA TK rfl (TN (WN [1, 36] rfl rfl ?_)))
   refine TC _ rfl (fun h10 => ?_) (fun h10 => ?_)
   ·replace hm := JA h10 hm
    refine RS (SA TK rfl (TN (WN [2] rfl rfl (TR (WR ?_)))))
    obtain rfl := OJ hm
    exact EndsS.one _ rfl (.d _) (.refl _)
   ·replace hm := JB h10 hm
    refine TS (WT (WN [1] rfl rfl ?_))
    refine w_joinS hm (fun _ => ([] : Fr)) (fun _ => ([] : List (Nat × Blk))) [] [1] rfl (fun z11 hm hz11 => ?_) (fun j hm => ?_)
    ·refine RS (SA TK rfl (SA TK rfl (SX rfl rfl (x_len TK rfl rfl rfl) (SA TK rfl (TN (WN [1, 38, 39, 40] rfl rfl (TB (w_loop hm (fun x13 => ([(40, .d (.int .i64 x13))] : Fr)) (fun x13 => ([] : List (Nat × Blk))) [40] [1, 38, 39] [0] rfl k0 rfl rfl rfl rfl rfl (fun x13 z14 hm hz14 => (WN [1, 38, 39, 40] rfl rfl ?_))))))))))
     refine RS (SA TK rfl (TN (WN [1, 38, 39, 40, 41] rfl rfl (TQ ?_))))
     refine TC _ rfl (fun h15 => ?_) (fun h15 => ?_)
     ·replace hm := JT h15 hm
      refine TS (WT (WN [1, 38, 39, 40] rfl rfl (TQ (TB (RS ?_)))))
      obtain ⟨e16, he16, hm⟩ := GV hm
      refine SX rfl rfl (x_ix TK rfl rfl rfl rfl he16) (SA TK rfl (s_al 1 rfl rfl zero52 rfl (s_wkb 1 [none, none, none, some 3, some 2, some 1, none, none, some 3, some 2, some 1, some 2, some 1, some 2] rfl rfl (SA TK rfl (TN (WN [1, 4, 38, 39, 40] rfl rfl (RS (SA TK rfl (SA TK rfl ?_)))))))))
      obtain ⟨r17, hr17, hm⟩ := BI hm
      refine SX rfl rfl (RN rfl rfl (SC (.d _) (SC (.d _) SN)) (table_routeRight_c hr17)) (SA TK rfl (TN (WN [1, 38, 39, 40, 47] rfl rfl ?_)))
      refine TC _ rfl (fun h18 => ?_) (fun h18 => ?_)
      ·replace hm := JA h18 hm
       refine RS (SA TK rfl (TN (WN [2] rfl rfl (TR (WB (WR ?_))))))
       obtain ⟨v19, hm, hz⟩ := II hm
       rw [hz14 _ hz] at hm
       refine WR (WB ?_)
       obtain ⟨v20, hm, hz⟩ := II hm
       rw [hz11 _ hz] at hm
       refine WR ?_
       obtain rfl := OJ hm
       exact EndsS.one _ rfl (.d _) (.refl _)
      ·replace hm := JB h18 hm
       refine TS (WK (WT (WN [1, 38, 39, 40] rfl rfl (TG ?_))))
       obtain ⟨g21, hm⟩ := GI hm
       refine SX rfl rfl (x_ar rfl rfl rfl rfl g21) (SA TK rfl (TN (WT ?_)))
       exact ⟨_, [0], (SJ hm), rfl, k0, rfl⟩
     ·replace hm := JF h15 hm
      refine twp_exit (WX ?_)
      obtain ⟨v22, hm, hz⟩ := II hm
      rw [hz14 _ hz] at hm
      refine WX (WH (WT ?_))
      exact ⟨_, [0], (SJ hm), rfl, k0, rfl⟩
    ·refine WN [1] rfl rfl ?_
     refine w_joinS hm (fun _ => ([] : Fr)) (fun _ => ([] : List (Nat × Blk))) [] [1] rfl (fun z23 hm hz23 => ?_) (fun j hm => ?_)
     ·refine RS (SA TK rfl (SA TK rfl (SX rfl rfl (x_len TK rfl rfl rfl) (SA TK rfl (TN (WN [1, 50, 51, 52] rfl rfl (TB (w_loop hm (fun x25 => ([(52, .d (.int .i64 x25))] : Fr)) (fun x25 => ([] : List (Nat × Blk))) [52] [1, 50, 51] [0] rfl k0 rfl rfl rfl rfl rfl (fun x25 z26 hm hz26 => (WN [1, 50, 51, 52] rfl rfl ?_))))))))))
      refine RS (SA TK rfl (TN (WN [1, 50, 51, 52, 53] rfl rfl (TQ ?_))))
      refine TC _ rfl (fun h27 => ?_) (fun h27 => ?_)
      ·replace hm := JT h27 hm
       refine TS (WT (WN [1, 50, 51, 52] rfl rfl (TQ (TB (RS ?_)))))
       obtain ⟨e28, he28, hm⟩ := GV hm
       refine SX rfl rfl (x_ix TK rfl rfl rfl rfl he28) (SA TK rfl (s_al 1 rfl rfl zero52 rfl (s_wkb 1 [none, none, none, some 3, some 2, some 1, none, none, some 3, some 2, some 1, some 2, some 1, some 2] rfl rfl (SA TK rfl (TN (WN [1, 6, 50, 51, 52] rfl rfl ?_))))))
       refine w_joinM hm (fun x29 => ([(74, .d (.bool (x29)))] : Fr)) (fun x29 => ([] : List (Nat × Blk))) [74] [1, 50, 51, 52] rfl (fun z30 hm => ?_) (fun x29 hm => ?_)
       ·refine TG (SA TK rfl (SA TK rfl (SA TK rfl ?_)))
        obtain ⟨r31, hr31, hm⟩ := BI hm
        refine SX rfl rfl (RN rfl rfl (SC (.d _) (SC (.d _) SN)) (table_settingsRight_c hr31)) (SA TK rfl (SB TK rfl (fun q32 hq32 => ?_)))
        cases q32
        ·replace hm := JB hq32 hm
         refine SA TK rfl (SA TK rfl (SA TK rfl ?_))
         obtain ⟨r33, hr33, hm⟩ := BI hm
         refine SX rfl rfl (RN rfl rfl (SC (.d _) (SC (.d _) SN)) (table_settingsRight_c hr33)) (SA TK rfl (SA TK rfl (SB TK rfl (fun q34 hq34 => ?_))))
         cases q34
         ·replace hm := JB hq34 hm
          refine SA TK rfl (SA TK rfl (SA TK rfl ?_))
          obtain ⟨r35, hr35, hm⟩ := BI hm
          refine SX rfl rfl (RN rfl rfl (SC (.d _) (SC (.d _) SN)) (table_settingsRight_c hr35)) (SA TK rfl (SA TK rfl (TN (WT ?_))))
          exact ⟨_, [0, 1], (SJ hm), rfl, k0, rfl⟩
         ·replace hm := JA hq34 hm
          iterate 6 (refine SA TK rfl ?_)
          refine TN (WT ?_)
          exact ⟨_, [0, 1], (SJ hm), rfl, k0, rfl⟩
        ·replace hm := JA hq32 hm
         iterate 13 (refine SA TK rfl ?_)
         refine TN (WT ?_)
         exact ⟨_, [0, 1], (SJ hm), rfl, k0, rfl⟩
       ·refine WN [1, 50, 51, 52, 74] rfl rfl ?_
        refine TC _ rfl (fun h36 => ?_) (fun h36 => ?_)
        ·replace hm := JA h36 hm
         refine RS (SA TK rfl (TN (WN [2] rfl rfl (TR (WB (WR ?_))))))
         obtain ⟨v37, hm, hz⟩ := II hm
         rw [hz26 _ hz] at hm
         refine WR (WB ?_)
         obtain ⟨v38, hm, hz⟩ := II hm
         rw [hz23 _ hz] at hm
         refine WR ?_
         obtain rfl := OJ hm
         exact EndsS.one _ rfl (.d _) (.refl _)
        ·replace hm := JB h36 hm
         refine TS (WK (WT (WN [1, 50, 51, 52] rfl rfl (TG ?_))))
         obtain ⟨g39, hm⟩ := GI hm
         refine SX rfl rfl (x_ar rfl rfl rfl rfl g39) (SA TK rfl (TN (WT ?_)))
         exact ⟨_, [0], (SJ hm), rfl, k0, rfl⟩
      ·replace hm := JF h27 hm
       refine twp_exit (WX ?_)
       obtain ⟨v40, hm, hz⟩ := II hm
       rw [hz26 _ hz] at hm
       refine WX (WH (WT ?_))
       exact ⟨_, [0], (SJ hm), rfl, k0, rfl⟩
     ·refine WN [1] rfl rfl ?_
      refine w_joinS hm (fun _ => ([] : Fr)) (fun _ => ([] : List (Nat × Blk))) [] [1] rfl (fun z41 hm hz41 => ?_) (fun j hm => ?_)
      ·refine RS (SA TK rfl (SA TK rfl (SX rfl rfl (x_len TK rfl rfl rfl) (SA TK rfl (TN (WN [1, 77, 78, 79] rfl rfl (TB (w_loop hm (fun x43 => ([(79, .d (.int .i64 x43))] : Fr)) (fun x43 => ([] : List (Nat × Blk))) [79] [1, 77, 78] [0] rfl k0 rfl rfl rfl rfl rfl (fun x43 z44 hm hz44 => (WN [1, 77, 78, 79] rfl rfl ?_))))))))))
       refine RS (SA TK rfl (TN (WN [1, 77, 78, 79, 80] rfl rfl (TQ ?_))))
       refine TC _ rfl (fun h45 => ?_) (fun h45 => ?_)
       ·replace hm := JT h45 hm
        refine TS (WT (WN [1, 77, 78, 79] rfl rfl (TQ (TB (RS ?_)))))
        obtain ⟨e46, he46, hm⟩ := GV hm
        refine SX rfl rfl (x_ix TK rfl rfl rfl rfl he46) (SA TK rfl (s_al 1 rfl rfl zero52 rfl (s_wkb 1 [none, none, none, some 3, some 2, some 1, none, none, some 3, some 2, some 1, some 2, some 1, some 2] rfl rfl (SA TK rfl (TN (WN [1, 8, 77, 78, 79] rfl rfl ?_))))))
        refine w_joinM hm (fun x47 => ([(104, .d (.bool (x47)))] : Fr)) (fun x47 => ([] : List (Nat × Blk))) [104] [1, 77, 78, 79] rfl (fun z48 hm => ?_) (fun x47 hm => ?_)
        ·refine TG ?_
         iterate 4 (refine SA TK rfl ?_)
         obtain ⟨r49, hr49, hm⟩ := BI hm
         refine SX rfl rfl (RN rfl rfl (SC (.d _) (SC (.d _) SN)) (conflict_Agree_c hr49)) (SA TK rfl (SB TK rfl (fun q50 hq50 => ?_)))
         cases q50
         ·replace hm := JB hq50 hm
          iterate 4 (refine SA TK rfl ?_)
          obtain ⟨r51, hr51, hm⟩ := BI hm
          refine SX rfl rfl (RN rfl rfl (SC (.d _) (SC (.d _) SN)) (conflict_Agree_c hr51)) (SA TK rfl (SA TK rfl (SB TK rfl (fun q52 hq52 => ?_))))
          cases q52
          ·replace hm := JB hq52 hm
           iterate 4 (refine SA TK rfl ?_)
           obtain ⟨r53, hr53, hm⟩ := BI hm
           refine SX rfl rfl (RN rfl rfl (SC (.d _) (SC (.d _) SN)) (conflict_Agree_c hr53)) (SA TK rfl (SA TK rfl (TN (WT ?_))))
           exact ⟨_, [0, 1], (SJ hm), rfl, k0, rfl⟩
          ·replace hm := JA hq52 hm
           iterate 7 (refine SA TK rfl ?_)
           refine TN (WT ?_)
           exact ⟨_, [0, 1], (SJ hm), rfl, k0, rfl⟩
         ·replace hm := JA hq50 hm
          iterate 15 (refine SA TK rfl ?_)
          refine TN (WT ?_)
          exact ⟨_, [0, 1], (SJ hm), rfl, k0, rfl⟩
        ·refine WN [1, 77, 78, 79, 104] rfl rfl ?_
         refine TC _ rfl (fun h54 => ?_) (fun h54 => ?_)
         ·replace hm := JA h54 hm
          refine RS (SA TK rfl (TN (WN [2] rfl rfl (TR (WB (WR ?_))))))
          obtain ⟨v55, hm, hz⟩ := II hm
          rw [hz44 _ hz] at hm
          refine WR (WB ?_)
          obtain ⟨v56, hm, hz⟩ := II hm
          rw [hz41 _ hz] at hm
          refine WR ?_
          obtain rfl := OJ hm
          exact EndsS.one _ rfl (.d _) (.refl _)
         ·replace hm := JB h54 hm
          refine TS (WK (WT (WN [1, 77, 78, 79] rfl rfl (TG ?_))))
          obtain ⟨g57, hm⟩ := GI hm
          refine SX rfl rfl (x_ar rfl rfl rfl rfl g57) (SA TK rfl (TN (WT ?_)))
          exact ⟨_, [0], (SJ hm), rfl, k0, rfl⟩
       ·replace hm := JF h45 hm
        refine twp_exit (WX ?_)
        obtain ⟨v58, hm, hz⟩ := II hm
        rw [hz44 _ hz] at hm
        refine WX (WH (WT ?_))
        exact ⟨_, [0], (SJ hm), rfl, k0, rfl⟩
      ·refine WN [1] rfl rfl (RS (s_makeMap 9 4 rfl (s_eq 106 (.mmap 1) rfl rfl (SA TK rfl (TN (WN [1, 9] rfl rfl ?_))))))
       refine w_joinS hm (fun m59 => ([] : Fr)) (fun m59 => ([(1, .map 9 4 (pairMap D.str D.bool m59))] : List (Nat × Blk))) [] [] rfl (fun z60 hm hz60 => ?_) (fun m59 hm => ?_)
       ·refine RS (SA TK rfl (SA TK rfl (SX rfl rfl (x_len TK rfl rfl rfl) (SA TK rfl (TN (WN [9, 108, 109, 110] rfl rfl (TB (w_loop hm (fun (x64, b65) => ([(110, .d (.int .i64 x64))] : Fr)) (fun (x64, b65) => ([(1, .map 9 4 (pairMap D.str D.bool b65))] : List (Nat × Blk))) [110] [9, 108, 109] [0, 1] rfl k0 rfl rfl rfl rfl rfl (fun s z66 hm hz66 => ?_)))))))))
        obtain ⟨x64, b65⟩ := s
        refine WN [9, 108, 109, 110] rfl rfl (RS (SA TK rfl (TN (WN [9, 108, 109, 110, 111] rfl rfl (TQ ?_)))))
        refine TC _ rfl (fun h67 => ?_) (fun h67 => ?_)
        ·replace hm := JT h67 hm
         refine TS (WT (WN [9, 108, 109, 110] rfl rfl (TQ (TB (RS ?_)))))
         obtain ⟨e68, he68, hm⟩ := GV hm
         refine SX rfl rfl (x_ix TK rfl rfl rfl rfl he68) (SA TK rfl (s_al 2 rfl rfl zero52 rfl (s_wkb 2 [none, none, none, some 3, some 2, some 1, none, none, some 3, some 2, some 1, some 2, some 1, some 2] rfl rfl (SA TK rfl (TN (WN [9, 11, 108, 109, 110] rfl rfl (TQ (RS ?_))))))))
         refine SA TK rfl (SA TK rfl (SA TK rfl ?_))
         obtain ⟨g69, hm⟩ := GI hm
         refine SX rfl rfl (x_look0 keyF_str D.bool _ _ false rfl mty92 zero4 rfl rfl rfl rfl g69) (TN (WN [9, 11, 108, 109, 110, 117] rfl rfl ?_))
         refine TC _ rfl (fun h70 => ?_) (fun h70 => ?_)
         ·replace hm := JA h70 hm
          refine RS (SA TK rfl (TN (WN [2] rfl rfl (TR (WR (WB (WR ?_)))))))
          obtain ⟨v71, hm, hz⟩ := II hm
          rw [hz66 _ hz] at hm
          refine WR (WB ?_)
          obtain ⟨v72, hm, hz⟩ := II hm
          rw [hz60 _ hz] at hm
          refine WR ?_
          obtain rfl := OJ hm
          exact EndsS.one _ rfl (.d _) (.refl _)
         ·replace hm := JB h70 hm
          refine TS (WT (WN [9, 11, 108, 109, 110] rfl rfl (TG (SA TK rfl (SA TK rfl (SA TK rfl ?_))))))
          obtain ⟨g73, hm⟩ := GI hm
          refine s_putE keyF_str D.bool mty92 rfl rfl rfl rfl g73 (TN (WK (WT (WN [9, 108, 109, 110] rfl rfl (TG ?_)))))
          obtain ⟨g74, hm⟩ := GI hm
          refine SX rfl rfl (x_ar rfl rfl rfl rfl g74) (SA TK rfl (TN (WT ?_)))
          exact ⟨_, [0, 1], (SJ hm), rfl, k0, rfl⟩
        ·replace hm := JF h67 hm
         refine twp_exit (WX ?_)
         obtain ⟨v75, hm, hz⟩ := II hm
         rw [hz66 _ hz] at hm
         refine WX (WH (WT ?_))
         exact ⟨_, [0, 1], (SJ hm), rfl, k0, rfl⟩
       ·refine WN [] rfl rfl (RS (SA TK rfl (TN (WN [2] rfl rfl (TR ?_)))))
        obtain rfl := OJ hm
        exact EndsS.one _ rfl (.d _) (.refl _)

theorem interlock_Start_c {p0 : Table} {r : Inter} (hm : interlock_Start p0 = some r) : RetD Tryz.prog 15 [p0.enc] (r.enc) := by
 refine .of (mv := fun _ => false) (ret_bodyS callB15 Tryz.func15 rfl Tryz.ntmps15 rfl rfl (fun wX gX => ?_))
 unfold interlock_Start at hm
 refine WN [0] rfl rfl (RS (s_bx 0 rfl rfl rfl (s_al 1 rfl rfl zero28 rfl (s_upB (f := (D.int .i64)) 1 1 2 3 1 rfl rfl rfl (s_wkb 1 [some 3, none] rfl rfl (TN (WN [1, 2] rfl rfl (TQ ?_))))))))
 refine RS (SA TK rfl ?_)
 obtain ⟨r1, hr1, hm⟩ := BI hm
 refine SX rfl rfl (RN rfl rfl (SC (.d _) SN) (table_Check_c hr1)) (SA TK rfl (TN (WN [1, 2, 6] rfl rfl ?_)))
 refine TC _ rfl (fun h2 => ?_) (fun h2 => ?_)
 ·replace hm := iteN_T h2 hm
  refine RS (SX rfl rfl (rd_build rfl plc28 zero28 rfl rfl rfl rfl) (SA TK rfl (s_upB (f := (D.int .i64)) 1 1 3 3 1 rfl rfl rfl (s_wkb 1 [some 3, none] rfl rfl (TN (WN [2] rfl rfl (TR (WR ?_))))))))
  obtain rfl := OJ hm
  exact EndsS.cellR _ TK rfl rfl rfl rfl rfl (snap_agg (.cons (.d _) rfl (.cons (snap_map rfl) rfl .nil)))
 ·replace hm := iteN_F h2 hm
  refine TS (WT (WN [1, 2] rfl rfl (RS (SA TK rfl (SA TK rfl (SX rfl rfl (x_len TK rfl rfl rfl) ?_))))))
  obtain ⟨g3, hm⟩ := GI hm
  refine SX rfl rfl (x_make (f := RouteState.enc) (x := (⟨(0 : Int), (0 : Int), (0 : Int)⟩ : RouteState)) TK rfl rfl zero47 rfl rfl rfl rfl rfl g3 rfl) (SX rfl rfl (rd_build rfl plc28 zero28 rfl rfl rfl rfl) (s_al 3 rfl rfl zero28 rfl (s_upB (f := (D.int .i64)) 3 1 4 3 1 rfl rfl rfl (s_wkb 3 [some 3, none] rfl rfl (SA TK rfl (s_upB (f := (D.int .i64)) 3 1 5 3 1 rfl rfl rfl (TN (WN [1, 2, 3] rfl rfl ?_))))))))
  refine w_joinM hm (fun b4 => ([] : Fr)) (fun b4 => ([(3, .box 28 [.d (.sl 3 ((List.replicate (p0.routes.length : Int).toNat (⟨(0 : Int), (0 : Int), (0 : Int)⟩ : RouteState)).map RouteState.enc)), .msl 5 1 0 b4.length]), (5, .flat 3 1 (b4.map (D.int .i64)))] : List (Nat × Blk))) [] [2, 3] rfl (fun z5 hm => ?_) (fun b4 hm => ?_)
  ·refine RS (SA TK rfl (SA TK rfl (SX rfl rfl (x_len TK rfl rfl rfl) (SA TK rfl (TN (WN [2, 3, 15, 16] rfl rfl (TB (w_loop hm (fun (x9, b10) => ([(16, .d (.int .i64 x9))] : Fr)) (fun (x9, b10) => ([(3, .box 28 [.d (.sl 3 ((List.replicate (p0.routes.length : Int).toNat (⟨(0 : Int), (0 : Int), (0 : Int)⟩ : RouteState)).map RouteState.enc)), .msl 5 1 0 b10.length]), (5, .flat 3 1 (b10.map (D.int .i64)))] : List (Nat × Blk))) [16] [2, 3, 15] [0, 1, 2, 3, 4, 5] rfl k0 rfl rfl rfl rfl rfl (fun s z11 hm hz11 => ?_)))))))))
   obtain ⟨x9, b10⟩ := s
   refine WN [2, 3, 15, 16] rfl rfl (RS (SA TK rfl (TN (WN [2, 3, 15, 16, 17] rfl rfl (TQ ?_)))))
   refine TC _ rfl (fun h12 => ?_) (fun h12 => ?_)
   ·replace hm := JT h12 hm
    refine TS (WT (WN [2, 3, 15, 16] rfl rfl (TQ (TB (TG (SA TK rfl (SA TK rfl (SX rfl rfl (x_lit [.const (Value.int IntKind.i64 1)] TK rfl rfl zero3 rfl rfl rfl rfl rfl) ?_))))))))
    obtain ⟨g13, hm⟩ := GI hm
    refine s_app (f := (D.int .i64)) ([(1 : Int)] : List Int) TK rfl rfl zero3 rfl rfl rfl rfl rfl (fun h => absurd h (Nat.not_lt_zero _)) rfl src_d g13 rfl rfl (SA TK rfl (SA TK rfl (TN (WK (WT (WN [2, 3, 15, 16] rfl rfl (TG ?_)))))))
    obtain ⟨g14, hm⟩ := GI hm
    refine SX rfl rfl (x_ar rfl rfl rfl rfl g14) (SA TK rfl (TN (WT ?_)))
    exact ⟨_, [0, 1, 2, 3, 4, 5], (SJ hm), rfl, k0, rfl⟩
   ·replace hm := JF h12 hm
    refine twp_exit (WX ?_)
    obtain ⟨v15, hm, hz⟩ := II hm
    rw [hz11 _ hz] at hm
    refine WX (WH (WT ?_))
    exact ⟨_, [0, 1, 2, 3, 4, 5], (SJ hm), rfl, k0, rfl⟩
  ·refine WN [2, 3] rfl rfl (RS (SA TK rfl (SA TK rfl (TN (WN [2] rfl rfl (TR ?_))))))
   obtain rfl := OJ hm
   exact EndsS.cellR _ TK rfl rfl rfl rfl rfl (snap_agg (.cons (.d _) rfl (.cons (snap_map rfl) rfl .nil)))

theorem slices_Clone_int_c {p0 : (List Int)} {r : (List Int)} (hm : slices_Clone_int p0 = some r) : RetD Tryz.prog 28 [.sl 1 (p0.map (D.int .i64))] (.sl 1 (r.map (D.int .i64))) := by
 refine .of (mv := fun _ => false) (ret_bodyS callB28 Tryz.func28 rfl Tryz.ntmps28 rfl rfl (fun wX gX => ?_))
 unfold slices_Clone_int at hm
 refine WN [0] rfl rfl (RS (SA TK rfl (TN (WN [0] rfl rfl (TQ (RS (SA TK rfl (s_eqNil rfl Tryz.underlying23 rfl rfl (fun b1 hb1 => ?_)))))))))
 refine TN (WN [0, 4] rfl rfl ?_)
 refine TC _ rfl (fun h2 => ?_) (fun h2 => ?_)
 ·obtain ⟨hnb1, hm⟩ := nil_T (hb1 h2) hm
  subst hnb1
  refine RS (SA TK rfl (TN (c_wk 2 [some 1] rfl (WN [2] rfl rfl (TR (WR ?_))))))
  obtain rfl := OJ hm
  exact EndsS.one _ rfl (.d _) (.refl _)
 ·replace hm := nil_F hm
  refine TS (WT (WN [0] rfl rfl (RS (s_litO (f := (D.int .i64)) 0 [] ([] : List Int) TK rfl rfl rfl zero3 rfl rfl rfl rfl rfl (SA TK rfl ?_)))))
  obtain ⟨g3, hm⟩ := GI hm
  refine s_app (f := (D.int .i64)) p0 TK rfl rfl zero3 rfl rfl rfl rfl rfl (fun h => absurd h (Nat.not_lt_zero _)) rfl src_d g3 rfl rfl (SA TK rfl (TN (WN [2] rfl rfl (TR ?_))))
  obtain rfl := OJ hm
  exact EndsS.one _ rfl (snap_map rfl) (.refl _)

theorem slices_Clone_int_row {p0 : (List Int)} {r : (List Int)} (hm : slices_Clone_int p0 = some r) : Ret Tryz.prog 28 [] (fun _ => false) ([.sl 1 (p0.map (D.int .i64))].map .d) (.msl 0 1 0 r.length) [.flat 3 1 (r.map (D.int .i64))] := by
 refine ret_body callB28 Tryz.func28 rfl Tryz.ntmps28 rfl rfl (fun wX gX => ?_)
 unfold slices_Clone_int at hm
 refine WN [0] rfl rfl (RS (s_nilO (f := (D.int .i64)) 0 3 1 rfl rfl rfl (TN (WN [0] rfl rfl (TQ (RS (SA TK rfl (s_eqNil rfl Tryz.underlying23 rfl rfl (fun b1 hb1 => ?_)))))))))
 refine TN (WN [0, 4] rfl rfl ?_)
 refine TC _ rfl (fun h2 => ?_) (fun h2 => ?_)
 ·obtain ⟨hnb1, hm⟩ := nil_T (hb1 h2) hm
  subst hnb1
  refine RS (s_nilO (f := (D.int .i64)) 1 3 1 rfl rfl rfl (TN (WN [2] rfl rfl (TR (WR ?_)))))
  obtain rfl := OJ hm
  exact ⟨_, [1], res rfl, by decide, k0, rfl, rfl⟩
 ·replace hm := nil_F hm
  refine TS (WT (WN [0] rfl rfl (RS (s_litO (f := (D.int .i64)) 1 [] ([] : List Int) TK rfl rfl rfl zero3 rfl rfl rfl rfl rfl (SA TK rfl ?_)))))
  obtain ⟨g3, hm⟩ := GI hm
  refine s_app (f := (D.int .i64)) p0 TK rfl rfl zero3 rfl rfl rfl rfl rfl (fun h => absurd h (Nat.not_lt_zero _)) rfl src_d g3 rfl rfl (SA TK rfl (TN (WN [2] rfl rfl (TR ?_))))
  obtain rfl := OJ hm
  exact ⟨_, [1], res rfl, by decide, k0, rfl, rfl⟩

theorem idset_Make_c {p0 : (List Int)} {r : (List Int)} (hm : idset_Make p0 = some r) : RetD Tryz.prog 26 [.sl 1 (p0.map (D.int .i64))] (.sl 1 (r.map (D.int .i64))) := by
 refine .of (mv := fun _ => false) (ret_bodyS callB26 Tryz.func26 rfl Tryz.ntmps26 rfl rfl (fun wX gX => ?_))
 unfold idset_Make at hm
 refine WN [0] rfl rfl (RS (SA TK rfl (TN (WN [0] rfl rfl (RS (SA TK rfl ?_))))))
 obtain ⟨r1, hr1, hm⟩ := BI hm
 refine s_callD rfl rfl rfl (slices_Clone_int_row hr1) rfl rfl (s_eq 5 (.msl 0 1 0 r1.length) rfl rfl (SA TK rfl (TN (WN [3] rfl rfl (RS (SA TK rfl ?_))))))
 obtain ⟨g2, hm⟩ := GI hm
 refine s_callW [0] rfl rfl rfl (by simp) rfl rfl rfl (slices_Sort_int_c r1 g2) rfl rfl ?_
 refine s_lno 3 (sortI r1).length rfl (sortI_length _).symm (s_lno 6 (sortI r1).length rfl (sortI_length _).symm (TN (WN [3] rfl rfl (RS (SA TK rfl ?_)))))
 obtain ⟨g3, hm⟩ := GI hm
 refine s_callW [0] rfl rfl rfl (by simp) rfl rfl rfl (slices_Compact_int_c (sortI r1) g3) rfl rfl ?_
 refine SA TK rfl (TN (WN [2] rfl rfl (TR ?_)))
 obtain rfl := OJ hm
 exact EndsS.one _ rfl (snap_map rfl) (.refl _)

theorem locks_routeFits_c {p0 : RouteState} {p1 : Int} {r : Bool} (hm : locks_routeFits p0 p1 = some r) : RetN Tryz.prog 94 [p0.enc, .int .i64 p1] (.bool (r)) := by
 refine .unit (ret_bodyS callB94 Tryz.func94 rfl Tryz.ntmps94 rfl rfl (fun wX gX => ?_)) rfl
 unfold locks_routeFits at hm
 refine WN [0, 1] rfl rfl (RS (s_bx 0 rfl rfl rfl (SA TK rfl (TN (WN [1, 2] rfl rfl (TQ (RS (SA TK rfl (SA TK rfl ?_)))))))))
 refine TN (WN [1, 2, 6] rfl rfl (TB ?_))
 refine w_joinM hm (fun x1 => ([(7, .d (.bool (x1)))] : Fr)) (fun x1 => ([] : List (Nat × Blk))) [7] [1, 2, 6] rfl (fun z2 hm => ?_) (fun x1 hm => ?_)
 ·refine RS (SA TK rfl (SA TK rfl (TN (WN [1, 2, 6, 7] rfl rfl ?_))))
  refine TC _ rfl (fun h3 => ?_) (fun h3 => ?_)
  ·replace hm := JT h3 hm
   refine TS (WT ?_)
   exact ⟨_, [0], (SJ hm), rfl, k0, rfl⟩
  ·replace hm := JF h3 hm
   refine RS (SA TK rfl (SA TK rfl (TN (WN [1, 2, 6, 7] rfl rfl ?_))))
   refine TC _ rfl (fun h4 => ?_) (fun h4 => ?_)
   ·replace hm := JT h4 hm
    refine TS (WT ?_)
    exact ⟨_, [0], (SJ hm), rfl, k0, rfl⟩
   ·replace hm := JF h4 hm
    refine TG (SA TK rfl (SA TK rfl (TN (WT ?_))))
    exact ⟨_, [0], (SJ hm), rfl, k0, rfl⟩
 ·refine WN [1, 2, 6, 7] rfl rfl ?_
  refine TC _ rfl (fun h5 => ?_) (fun h5 => ?_)
  ·replace hm := JA h5 hm
   refine w_cut [(4, .d (.bool (((decide (p0.rel = (0 : Int))) && (decide (p0.timer = (0 : Int)))))))] [4] [] rfl ?_ ?_
   ·refine TG (SA TK rfl (SA TK rfl (SA TK rfl (SB TK rfl (fun q6 hq6 => ?_)))))
    cases q6
    ·iterate 5 (refine SA TK rfl ?_)
     refine TN (WT ?_)
     exact ⟨[0], rfl, k0, st_eq (fr_cons (av_bool (by simp [hq6])) rfl) rfl⟩
    ·iterate 5 (refine SA TK rfl ?_)
     refine TN (WT ?_)
     exact ⟨[0], rfl, k0, st_eq (fr_cons (av_bool (by simp [hq6])) rfl) rfl⟩
   ·refine WN [4] rfl rfl (TR (WB (WR ?_)))
    obtain rfl := OJ hm
    exact EndsS.one _ rfl (.d _) (.refl _)
  ·replace hm := JB h5 hm
   refine RS (SA TK rfl (SA TK rfl (TN (WN [1, 2, 6, 19] rfl rfl ?_))))
   refine TC _ rfl (fun h7 => ?_) (fun h7 => ?_)
   ·replace hm := JT h7 hm
    refine TQ ?_
    refine w_cut [(29, .d (.bool (((decide (p0.rel < (0 : Int))) || (decide (p1 ≤ p0.rel))))))] [29] [1, 2] rfl ?_ ?_
    ·refine TG (SA TK rfl (SA TK rfl (SA TK rfl (SB TK rfl (fun q8 hq8 => ?_)))))
     cases q8
     ·iterate 5 (refine SA TK rfl ?_)
      refine TN (WT ?_)
      exact ⟨[0], rfl, k0, st_eq (fr_cons (av_bool (by simp [hq8])) rfl) rfl⟩
     ·iterate 5 (refine SA TK rfl ?_)
      refine TN (WT ?_)
      exact ⟨[0], rfl, k0, st_eq (fr_cons (av_bool (by simp [hq8])) rfl) rfl⟩
    ·refine WN [1, 2, 29] rfl rfl ?_
     refine TC _ rfl (fun h9 => ?_) (fun h9 => ?_)
     ·replace hm := JA h9 hm
      refine RS (SA TK rfl (TN (WN [4] rfl rfl (TR (WR (WB (WR ?_)))))))
      obtain rfl := OJ hm
      exact EndsS.one _ rfl (.d _) (.refl _)
     ·replace hm := JB h9 hm
      refine TS (WT (WN [1, 2] rfl rfl ?_))
      refine w_joinM hm (fun x10 => ([(4, .d (.bool (x10)))] : Fr)) (fun x10 => ([] : List (Nat × Blk))) [4] [] rfl (fun z11 hm => ?_) (fun x10 hm => ?_)
      ·refine TG (SA TK rfl (SA TK rfl (SA TK rfl (SB TK rfl (fun q12 hq12 => ?_)))))
       cases q12
       ·replace hm := JF hq12 hm
        refine SA TK rfl (SA TK rfl (SA TK rfl ?_))
        obtain ⟨g13, hm⟩ := GI hm
        refine SX rfl rfl (x_ar rfl rfl rfl rfl g13) (SA TK rfl (SB TK rfl (fun q14 hq14 => ?_)))
        cases q14
        ·replace hm := JF hq14 hm
         iterate 11 (refine SA TK rfl ?_)
         refine TN (WT ?_)
         exact ⟨_, [0], (SJ hm), rfl, k0, rfl⟩
        ·replace hm := JT hq14 hm
         iterate 4 (refine SA TK rfl ?_)
         refine SB TK rfl (fun q15 hq15 => ?_)
         cases q15
         ·replace hm := JF hq15 hm
          iterate 6 (refine SA TK rfl ?_)
          refine TN (WT ?_)
          exact ⟨_, [0], (SJ hm), rfl, k0, rfl⟩
         ·replace hm := JT hq15 hm
          iterate 6 (refine SA TK rfl ?_)
          refine TN (WT ?_)
          exact ⟨_, [0], (SJ hm), rfl, k0, rfl⟩
       ·replace hm := JT hq12 hm
        iterate 17 (refine SA TK rfl ?_)
        refine TN (WT ?_)
        exact ⟨_, [0], (SJ hm), rfl, k0, rfl⟩
      ·refine WN [4] rfl rfl (TR (WB (WR ?_)))
       obtain rfl := OJ hm
       exact EndsS.one _ rfl (.d _) (.refl _)
   ·replace hm := JF h7 hm
    refine RS (SA TK rfl (SA TK rfl (TN (WN [1, 2, 50] rfl rfl ?_))))
    refine TC _ rfl (fun h16 => ?_) (fun h16 => ?_)
    ·replace hm := JT h16 hm
     refine w_cut [(4, .d (.bool (((decide ((0 : Int) ≤ p0.rel)) && ((decide (p0.rel < p1)) && ((decide ((0 : Int) ≤ p0.timer)) && (decide (p0.timer < (12 : Int)))))))))] [4] [] rfl ?_ ?_
     ·refine TG (SA TK rfl (SA TK rfl (SA TK rfl (SB TK rfl (fun q17 hq17 => ?_)))))
      cases q17
      ·iterate 16 (refine SA TK rfl ?_)
       refine TN (WT ?_)
       exact ⟨[0], rfl, k0, st_eq (fr_cons (av_bool (by simp [hq17])) rfl) rfl⟩
      ·iterate 5 (refine SA TK rfl ?_)
       refine SB TK rfl (fun q18 hq18 => ?_)
       cases q18
       ·iterate 10 (refine SA TK rfl ?_)
        refine TN (WT ?_)
        exact ⟨[0], rfl, k0, st_eq (fr_cons (av_bool (by simp [hq17, hq18])) rfl) rfl⟩
       ·iterate 4 (refine SA TK rfl ?_)
        refine SB TK rfl (fun q19 hq19 => ?_)
        cases q19
        ·iterate 5 (refine SA TK rfl ?_)
         refine TN (WT ?_)
         exact ⟨[0], rfl, k0, st_eq (fr_cons (av_bool (by simp [hq17, hq18, hq19])) rfl) rfl⟩
        ·iterate 5 (refine SA TK rfl ?_)
         refine TN (WT ?_)
         exact ⟨[0], rfl, k0, st_eq (fr_cons (av_bool (by simp [hq17, hq18, hq19])) rfl) rfl⟩
     ·refine WN [4] rfl rfl (TR (WB (WR ?_)))
      obtain rfl := OJ hm
      exact EndsS.one _ rfl (.d _) (.refl _)
    ·replace hm := JF h16 hm
     refine TS (WK (WT (WN [] rfl rfl (RS (SA TK rfl (TN (WN [4] rfl rfl (TR ?_))))))))
     obtain rfl := OJ hm
     exact EndsS.one _ rfl (.d _) (.refl _)

theorem locks_fits_c {p0 : Table} {p1 : Inter} {r : Bool} (hm : locks_fits p0 p1 = some r) : RetN Tryz.prog 51 [p0.enc, p1.enc] (.bool (r)) := by
 refine .unit (ret_bodyS callB51 Tryz.func51 rfl Tryz.ntmps51 rfl rfl (fun wX gX => ?_)) rfl
 unfold locks_fits at hm
 refine WN [0, 1] rfl rfl (RS (s_bx 0 rfl rfl rfl (s_bx 1 rfl rfl rfl (SA TK rfl (TN (WN [2, 3] rfl rfl (TQ ?_)))))))
 refine w_joinM hm (fun x1 => ([(29, .d (.bool (x1)))] : Fr)) (fun x1 => ([] : List (Nat × Blk))) [29] [2, 3] rfl (fun z2 hm => ?_) (fun x1 hm => ?_)
 ·refine TG (SA TK rfl ?_)
  obtain ⟨r3, hr3, hm⟩ := BI hm
  refine SX rfl rfl (RN rfl rfl (SC (.d _) SN) (table_Check_c hr3)) (SA TK rfl (SB TK rfl (fun q4 hq4 => ?_)))
  cases q4
  ·replace hm := iteN_F hq4 hm
   refine SA TK rfl (SA TK rfl (SX rfl rfl (x_len TK rfl rfl rfl) (SA TK rfl (SA TK rfl (SX rfl rfl (x_len TK rfl rfl rfl) (SA TK rfl (SA TK rfl (SB TK rfl (fun q5 hq5 => ?_)))))))))
   cases q5
   ·replace hm := iteN_F hq5 hm
    refine SA TK rfl (SA TK rfl (SX rfl rfl (x_len TK rfl rfl rfl) (SA TK rfl (SA TK rfl (SX rfl rfl (x_len TK rfl rfl rfl) (SA TK rfl (SA TK rfl (TN (WT ?_)))))))))
    exact ⟨_, [0, 1], (SJ hm), rfl, k0, rfl⟩
   ·replace hm := iteN_T hq5 hm
    iterate 8 (refine SA TK rfl ?_)
    refine TN (WT ?_)
    exact ⟨_, [0, 1], (SJ hm), rfl, k0, rfl⟩
  ·replace hm := iteN_T hq4 hm
   iterate 17 (refine SA TK rfl ?_)
   refine TN (WT ?_)
   exact ⟨_, [0, 1], (SJ hm), rfl, k0, rfl⟩
 ·refine WN [2, 3, 29] rfl rfl ?_
  refine TC _ rfl (fun h6 => ?_) (fun h6 => ?_)
  ·replace hm := JA h6 hm
   refine RS (SA TK rfl (TN (WN [4] rfl rfl (TR (WR ?_)))))
   obtain rfl := OJ hm
   exact EndsS.one _ rfl (.d _) (.refl _)
  ·replace hm := JB h6 hm
   refine TS (WT (WN [2, 3] rfl rfl ?_))
   refine w_joinS hm (fun _ => ([] : Fr)) (fun _ => ([] : List (Nat × Blk))) [] [3] rfl (fun z7 hm hz7 => ?_) (fun j hm => ?_)
   ·refine RS (SA TK rfl (SA TK rfl (SX rfl rfl (x_len TK rfl rfl rfl) (SA TK rfl (TN (WN [2, 3, 31, 32, 33] rfl rfl (TB (w_loop hm (fun x9 => ([(33, .d (.int .i64 x9))] : Fr)) (fun x9 => ([] : List (Nat × Blk))) [33] [2, 3, 31, 32] [0, 1] rfl k0 rfl rfl rfl rfl rfl (fun x9 z10 hm hz10 => (WN [2, 3, 31, 32, 33] rfl rfl ?_))))))))))
    refine RS (SA TK rfl (TN (WN [2, 3, 31, 32, 33, 34] rfl rfl (TQ ?_))))
    refine TC _ rfl (fun h11 => ?_) (fun h11 => ?_)
    ·replace hm := JT h11 hm
     refine TS (WT (WN [2, 3, 31, 32, 33] rfl rfl (TQ (TB (RS (SA TK rfl ?_))))))
     obtain ⟨e12, he12, hm⟩ := GV hm
     refine SX rfl rfl (x_ix TK rfl rfl rfl rfl he12) (SA TK rfl (s_al 2 rfl rfl zero47 rfl (SA TK rfl (SA TK rfl (TN (WN [2, 3, 5, 6, 31, 32, 33] rfl rfl (twp_dseq follows  ?_)))))))
     iterate 4 (refine DA [0, 1, 2] TK rfl ?_)
     obtain ⟨e13, he13, hm⟩ := GV hm
     refine DX [0, 1, 2] rfl rfl (x_ix TK rfl rfl rfl rfl he13) ?_
     iterate 2 (refine DA [0, 1, 2] TK rfl ?_)
     refine DX [0, 1, 2] rfl rfl (x_len TK rfl rfl rfl) ?_
     obtain ⟨r14, hr14, hm⟩ := BI hm
     refine DX [0, 1, 2] rfl rfl (RN rfl rfl (SC (.d _) (SC (.d _) SN)) (locks_routeFits_c hr14)) (DA [0, 1, 2] TK rfl ?_)
     refine DT ?_ (by kernel_rfl)
     refine TN (WN [2, 3, 31, 32, 33, 47] rfl rfl ?_)
     refine TC _ rfl (fun h15 => ?_) (fun h15 => ?_)
     ·replace hm := JA h15 hm
      refine RS (SA TK rfl (TN (WN [4] rfl rfl (TR (WB (WR ?_))))))
      obtain ⟨v16, hm, hz⟩ := II hm
      rw [hz10 _ hz] at hm
      refine WR (WB ?_)
      obtain ⟨v17, hm, hz⟩ := II hm
      rw [hz7 _ hz] at hm
      refine WR ?_
      obtain rfl := OJ hm
      exact EndsS.one _ rfl (.d _) (.refl _)
     ·replace hm := JB h15 hm
      refine TS (WK (WT (WN [2, 3, 31, 32, 33] rfl rfl (TG ?_))))
      obtain ⟨g18, hm⟩ := GI hm
      refine SX rfl rfl (x_ar rfl rfl rfl rfl g18) (SA TK rfl (TN (WT ?_)))
      exact ⟨_, [0, 1], (SJ hm), rfl, k0, rfl⟩
    ·replace hm := JF h11 hm
     refine twp_exit (WX ?_)
     obtain ⟨v19, hm, hz⟩ := II hm
     rw [hz10 _ hz] at hm
     refine WX (WH (WT ?_))
     exact ⟨_, [0, 1], (SJ hm), rfl, k0, rfl⟩
   ·refine WN [3] rfl rfl ?_
    refine w_joinS hm (fun _ => ([] : Fr)) (fun _ => ([] : List (Nat × Blk))) [] [] rfl (fun z20 hm hz20 => ?_) (fun j hm => ?_)
    ·refine RS (SA TK rfl (SA TK rfl (SX rfl rfl (x_len TK rfl rfl rfl) (SA TK rfl (TN (WN [50, 51, 52] rfl rfl (TB (w_loop hm (fun x22 => ([(52, .d (.int .i64 x22))] : Fr)) (fun x22 => ([] : List (Nat × Blk))) [52] [50, 51] [0, 1] rfl k0 rfl rfl rfl rfl rfl (fun x22 z23 hm hz23 => (WN [50, 51, 52] rfl rfl ?_))))))))))
     refine RS (SA TK rfl (TN (WN [50, 51, 52, 53] rfl rfl (TQ ?_))))
     refine TC _ rfl (fun h24 => ?_) (fun h24 => ?_)
     ·replace hm := JT h24 hm
      refine TS (WT (WN [50, 51, 52] rfl rfl (TQ (TB (RS ?_)))))
      obtain ⟨e25, he25, hm⟩ := GV hm
      refine SX rfl rfl (x_ix TK rfl rfl rfl rfl he25) (SA TK rfl (SA TK rfl (TN (WN [8, 50, 51, 52] rfl rfl ?_))))
      refine w_cut [(61, .d (.bool (((!(decide (e25 = (1 : Int)))) && (!(decide (e25 = (2 : Int))))))))] [61] [50, 51, 52] rfl ?_ ?_
      ·refine TG (SA TK rfl (SA TK rfl (SB TK rfl (fun q26 hq26 => ?_))))
       cases q26
       ·refine SA TK rfl (SA TK rfl (SA TK rfl (TN (WT ?_))))
        exact ⟨[0, 1], rfl, k0, st_eq (fr_cons (av_bool (by simp [hq26])) rfl) rfl⟩
       ·refine SA TK rfl (SA TK rfl (SA TK rfl (TN (WT ?_))))
        exact ⟨[0, 1], rfl, k0, st_eq (fr_cons (av_bool (by simp [hq26])) rfl) rfl⟩
      ·refine WN [50, 51, 52, 61] rfl rfl ?_
       refine TC _ rfl (fun h27 => ?_) (fun h27 => ?_)
       ·replace hm := JA h27 hm
        refine RS (SA TK rfl (TN (WN [4] rfl rfl (TR (WB (WR ?_))))))
        obtain ⟨v28, hm, hz⟩ := II hm
        rw [hz23 _ hz] at hm
        refine WR (WB ?_)
        obtain ⟨v29, hm, hz⟩ := II hm
        rw [hz20 _ hz] at hm
        refine WR ?_
        obtain rfl := OJ hm
        exact EndsS.one _ rfl (.d _) (.refl _)
       ·replace hm := JB h27 hm
        refine TS (WK (WT (WN [50, 51, 52] rfl rfl (TG ?_))))
        obtain ⟨g30, hm⟩ := GI hm
        refine SX rfl rfl (x_ar rfl rfl rfl rfl g30) (SA TK rfl (TN (WT ?_)))
        exact ⟨_, [0, 1], (SJ hm), rfl, k0, rfl⟩
     ·replace hm := JF h24 hm
      refine twp_exit (WX ?_)
      obtain ⟨v31, hm, hz⟩ := II hm
      rw [hz23 _ hz] at hm
      refine WX (WH (WT ?_))
      exact ⟨_, [0, 1], (SJ hm), rfl, k0, rfl⟩
    ·refine WN [] rfl rfl (RS (SA TK rfl (TN (WN [4] rfl rfl (TR ?_)))))
     obtain rfl := OJ hm
     exact EndsS.one _ rfl (.d _) (.refl _)

end Go.Proofs.YtdhicpmpefkojaaGreat

set_option maxHeartbeats 8000000
set_option linter.unusedSimpArgs false
set_option linter.unusedVariables false
set_option maxRecDepth 20000
namespace Go.Proofs.YtdhicpmpefkojaaGreat
open Go Go.TL

theorem locks_path_c {p0 : Route} {p1 : RouteState} {r : (List Int)} (hm : locks_path p0 p1 = some r) : RetD Tryz.prog 95 [p0.enc, p1.enc] (.sl 1 (r.map (D.int .i64))) := by
 refine .of (mv := fun _ => false) (ret_bodyS callB95 Tryz.func95 rfl Tryz.ntmps95 rfl rfl (fun wX gX => ?_))
 unfold locks_path at hm
 refine WN [0, 1] rfl rfl (RS (s_bx 0 rfl rfl rfl (s_bx 1 rfl rfl rfl (SA TK rfl (TN (WN [2, 3] rfl rfl (TQ (RS ?_))))))))
 refine SA TK rfl (SA TK rfl (SA TK rfl (TN (WN [2, 3, 7] rfl rfl ?_))))
 refine TC _ rfl (fun h1 => ?_) (fun h1 => ?_)
 ·replace hm := JT h1 hm
  refine RS (SA TK rfl (TN (c_wk 4 [some 1] rfl (WN [4] rfl rfl (TR (WR ?_))))))
  obtain rfl := OJ hm
  exact EndsS.one _ rfl (.d _) (.refl _)
 ·replace hm := JF h1 hm
  refine TS (WT (WN [2, 3] rfl rfl (RS ?_)))
  iterate 4 (refine SA TK rfl ?_)
  obtain ⟨g2, hm⟩ := GI hm
  refine SX rfl rfl (x_cut TK rfl rfl rfl rfl rfl g2) ?_
  obtain ⟨r3, hr3, hm⟩ := BI hm
  refine SX rfl rfl (RD rfl rfl rfl (slices_Clone_int_c hr3)) (SA TK rfl (TN (WN [4] rfl rfl (TR ?_))))
  obtain rfl := OJ hm
  exact EndsS.one _ rfl (.d _) (.refl _)

theorem locks_over_c {p0 : Route} {p1 : RouteState} {r : (List Int)} (hm : locks_over p0 p1 = some r) : RetD Tryz.prog 96 [p0.enc, p1.enc] (.sl 1 (r.map (D.int .i64))) := by
 refine .of (mv := fun _ => false) (ret_bodyS callB96 Tryz.func96 rfl Tryz.ntmps96 rfl rfl (fun wX gX => ?_))
 unfold locks_over at hm
 refine WN [0, 1] rfl rfl (RS (s_bx 0 rfl rfl rfl (s_bx 1 rfl rfl rfl (SA TK rfl (TN (WN [2, 3] rfl rfl (TQ (RS ?_))))))))
 refine SA TK rfl (SA TK rfl (SA TK rfl (TN (WN [2, 7] rfl rfl ?_))))
 refine TC _ rfl (fun h1 => ?_) (fun h1 => ?_)
 ·replace hm := JT h1 hm
  refine RS (SA TK rfl (TN (c_wk 4 [some 1] rfl (WN [4] rfl rfl (TR (WR ?_))))))
  obtain rfl := OJ hm
  exact EndsS.one _ rfl (.d _) (.refl _)
 ·replace hm := JF h1 hm
  refine TS (WT (WN [2] rfl rfl (RS (SA TK rfl (SA TK rfl ?_)))))
  obtain ⟨r2, hr2, hm⟩ := BI hm
  refine SX rfl rfl (RD rfl rfl rfl (slices_Clone_int_c hr2)) (SA TK rfl (TN (WN [4] rfl rfl (TR ?_))))
  obtain rfl := OJ hm
  exact EndsS.one _ rfl (.d _) (.refl _)

theorem locks_locked_c {p0 : Route} {p1 : RouteState} {r : (List A2_int)} (hm : locks_locked p0 p1 = some r) : RetD Tryz.prog 52 [p0.enc, p1.enc] (.sl 2 (r.map A2_int.enc)) := by
 refine .of (mv := fun _ => false) (ret_bodyS callB52 Tryz.func52 rfl Tryz.ntmps52 rfl rfl (fun wX gX => ?_))
 unfold locks_locked at hm
 refine WN [0, 1] rfl rfl (RS (s_bx 0 rfl rfl rfl (s_bx 1 rfl rfl rfl (SA TK rfl (TN (WN [2, 3] rfl rfl (RS (s_nilO (f := A2_int.enc) 2 117 2 rfl rfl rfl ?_))))))))
 refine TN (WN [2, 3, 5] rfl rfl ?_)
 refine w_joinM hm (fun b1 => ([(5, .msl 2 2 0 b1.length)] : Fr)) (fun b1 => ([(2, .flat 117 2 (b1.map A2_int.enc))] : List (Nat × Blk))) [5] [2, 3] rfl (fun z2 hm => ?_) (fun b1 hm => ?_)
 ·refine RS (SA TK rfl (SA TK rfl ?_))
  obtain ⟨r3, hr3, hm⟩ := BI hm
  refine SX rfl rfl (RD rfl rfl rfl (locks_path_c hr3)) (SX rfl rfl (x_len TK rfl rfl rfl) (SA TK rfl (TN (WN [2, 3, 5, 12, 13, 14] rfl rfl (TB (w_loop hm (fun (x7, b8) => ([(5, .msl 2 2 0 b8.length), (14, .d (.int .i64 x7))] : Fr)) (fun (x7, b8) => ([(2, .flat 117 2 (b8.map A2_int.enc))] : List (Nat × Blk))) [5, 14] [2, 3, 12, 13] [0, 1, 2] rfl k0 rfl rfl rfl rfl rfl (fun s z9 hm hz9 => ?_)))))))
  obtain ⟨x7, b8⟩ := s
  refine WN [2, 3, 5, 12, 13, 14] rfl rfl (RS (SA TK rfl (TN (WN [2, 3, 5, 12, 13, 14, 15] rfl rfl (TQ ?_)))))
  refine TC _ rfl (fun h10 => ?_) (fun h10 => ?_)
  ·replace hm := JT h10 hm
   refine TS (WT (WN [2, 3, 5, 12, 13, 14] rfl rfl (TQ (TB (RS ?_)))))
   obtain ⟨e11, he11, hm⟩ := GV hm
   refine SX rfl rfl (x_ix TK rfl rfl rfl rfl he11) (SA TK rfl (SA TK rfl (TN (WN [2, 3, 5, 7, 12, 13, 14] rfl rfl (TG (SA TK rfl (SA TK rfl (SX rfl rfl (build_a rfl plcA117 zero117 rfl rfl rfl rfl) (SX rfl rfl (x_lit [.tmp 20] TK rfl rfl zero117 rfl rfl rfl rfl rfl) ?_)))))))))
   obtain ⟨g12, hm⟩ := GI hm
   refine s_app (f := A2_int.enc) ([(⟨e11, (0 : Int)⟩ : A2_int)] : List A2_int) TK rfl rfl zero117 rfl rfl rfl rfl rfl (fun h => absurd h (Nat.not_lt_zero _)) rfl src_d g12 rfl rfl (SA TK rfl (TN (WK (WT (WN [2, 3, 5, 12, 13, 14] rfl rfl (TG ?_))))))
   obtain ⟨g13, hm⟩ := GI hm
   refine SX rfl rfl (x_ar rfl rfl rfl rfl g13) (SA TK rfl (TN (WT ?_)))
   exact ⟨_, [0, 1, 2], (SJ hm), rfl, k0, rfl⟩
  ·replace hm := JF h10 hm
   refine twp_exit (WX ?_)
   obtain ⟨v14, hm, hz⟩ := II hm
   rw [hz9 _ hz] at hm
   refine WX (WH (WT ?_))
   exact ⟨_, [0, 1, 2], (SJ hm), rfl, k0, rfl⟩
 ·refine WN [2, 3, 5] rfl rfl ?_
  refine w_joinM hm (fun b15 => ([(5, .msl 2 2 0 b15.length)] : Fr)) (fun b15 => ([(2, .flat 117 2 (b15.map A2_int.enc))] : List (Nat × Blk))) [5] [] rfl (fun z16 hm => ?_) (fun b15 hm => ?_)
  ·refine RS (SA TK rfl (SA TK rfl ?_))
   obtain ⟨r17, hr17, hm⟩ := BI hm
   refine SX rfl rfl (RD rfl rfl rfl (locks_over_c hr17)) (SX rfl rfl (x_len TK rfl rfl rfl) (SA TK rfl (TN (WN [5, 26, 27, 28] rfl rfl (TB (w_loop hm (fun (x21, b22) => ([(5, .msl 2 2 0 b22.length), (28, .d (.int .i64 x21))] : Fr)) (fun (x21, b22) => ([(2, .flat 117 2 (b22.map A2_int.enc))] : List (Nat × Blk))) [5, 28] [26, 27] [0, 1, 2] rfl k0 rfl rfl rfl rfl rfl (fun s z23 hm hz23 => ?_)))))))
   obtain ⟨x21, b22⟩ := s
   refine WN [5, 26, 27, 28] rfl rfl (RS (SA TK rfl (TN (WN [5, 26, 27, 28, 29] rfl rfl (TQ ?_)))))
   refine TC _ rfl (fun h24 => ?_) (fun h24 => ?_)
   ·replace hm := JT h24 hm
    refine TS (WT (WN [5, 26, 27, 28] rfl rfl (TQ (TB (RS ?_)))))
    obtain ⟨e25, he25, hm⟩ := GV hm
    refine SX rfl rfl (x_ix TK rfl rfl rfl rfl he25) (SA TK rfl (SA TK rfl (TN (WN [5, 9, 26, 27, 28] rfl rfl (TG (SA TK rfl (SA TK rfl (SX rfl rfl (build_a rfl plcA117 zero117 rfl rfl rfl rfl) (SX rfl rfl (x_lit [.tmp 34] TK rfl rfl zero117 rfl rfl rfl rfl rfl) ?_)))))))))
    obtain ⟨g26, hm⟩ := GI hm
    refine s_app (f := A2_int.enc) ([(⟨e25, (1 : Int)⟩ : A2_int)] : List A2_int) TK rfl rfl zero117 rfl rfl rfl rfl rfl (fun h => absurd h (Nat.not_lt_zero _)) rfl src_d g26 rfl rfl (SA TK rfl (TN (WK (WT (WN [5, 26, 27, 28] rfl rfl (TG ?_))))))
    obtain ⟨g27, hm⟩ := GI hm
    refine SX rfl rfl (x_ar rfl rfl rfl rfl g27) (SA TK rfl (TN (WT ?_)))
    exact ⟨_, [0, 1, 2], (SJ hm), rfl, k0, rfl⟩
   ·replace hm := JF h24 hm
    refine twp_exit (WX ?_)
    obtain ⟨v28, hm, hz⟩ := II hm
    rw [hz23 _ hz] at hm
    refine WX (WH (WT ?_))
    exact ⟨_, [0, 1, 2], (SJ hm), rfl, k0, rfl⟩
  ·refine WN [5] rfl rfl (RS (SA TK rfl (SA TK rfl (TN (WN [4] rfl rfl (TR ?_))))))
   obtain rfl := OJ hm
   exact EndsS.one _ rfl (snap_map rfl) (.refl _)

theorem conflict_Follows_c {p0 : Route} {p1 : Route} {r : Bool} (hm : conflict_Follows p0 p1 = some r) : RetN Tryz.prog 97 [p0.enc, p1.enc] (.bool (r)) := by
 refine .unit (ret_bodyS callB97 Tryz.func97 rfl Tryz.ntmps97 rfl rfl (fun wX gX => ?_)) rfl
 unfold conflict_Follows at hm
 refine WN [0, 1] rfl rfl (RS (s_bx 0 rfl rfl rfl (s_bx 1 rfl rfl rfl (SA TK rfl (TN (WN [2, 3] rfl rfl ?_))))))
 refine w_cut [(4, .d (.bool (((decide ((0 : Int) ≤ p0.exit)) && (decide (p1.entry = p0.exit))))))] [4] [] rfl ?_ ?_
 ·refine TG (SA TK rfl (SA TK rfl (SA TK rfl (SB TK rfl (fun q1 hq1 => ?_)))))
  cases q1
  ·iterate 7 (refine SA TK rfl ?_)
   refine TN (WT ?_)
   exact ⟨[0, 1], rfl, k0, st_eq (fr_cons (av_bool (by simp [hq1])) rfl) rfl⟩
  ·iterate 7 (refine SA TK rfl ?_)
   refine TN (WT ?_)
   exact ⟨[0, 1], rfl, k0, st_eq (fr_cons (av_bool (by simp [hq1])) rfl) rfl⟩
 ·refine WN [4] rfl rfl (TR ?_)
  obtain rfl := OJ hm
  exact EndsS.one _ rfl (.d _) (.refl _)

theorem locks_has_c {p0 : (List A2_int)} {p1 : Int} {p2 : Int} {r : Bool} (hm : locks_has p0 p1 p2 = some r) : RetN Tryz.prog 98 [.sl 2 (p0.map A2_int.enc), .int .i64 p1, .int .i64 p2] (.bool (r)) := by
 refine .unit (ret_bodyS callB98 Tryz.func98 rfl Tryz.ntmps98 rfl rfl (fun wX gX => ?_)) rfl
 unfold locks_has at hm
 refine WN [0, 1, 2] rfl rfl (RS (SA TK rfl (TN (WN [0, 1, 2] rfl rfl ?_))))
 refine w_joinS hm (fun _ => ([] : Fr)) (fun _ => ([] : List (Nat × Blk))) [] [] rfl (fun z1 hm hz1 => ?_) (fun j hm => ?_)
 ·refine RS (SA TK rfl (SX rfl rfl (x_len TK rfl rfl rfl) (SA TK rfl (TN (WN [1, 2, 9, 10, 11] rfl rfl (TB (w_loop hm (fun x3 => ([(11, .d (.int .i64 x3))] : Fr)) (fun x3 => ([] : List (Nat × Blk))) [11] [1, 2, 9, 10] [] rfl k0 rfl rfl rfl rfl rfl (fun x3 z4 hm hz4 => (WN [1, 2, 9, 10, 11] rfl rfl ?_)))))))))
  refine RS (SA TK rfl (TN (WN [1, 2, 9, 10, 11, 12] rfl rfl (TQ ?_))))
  refine TC _ rfl (fun h5 => ?_) (fun h5 => ?_)
  ·replace hm := JT h5 hm
   refine TS (WT (WN [1, 2, 9, 10, 11] rfl rfl (TQ (TB (RS ?_)))))
   obtain ⟨e6, he6, hm⟩ := GV hm
   refine SX rfl rfl (x_ix TK rfl rfl rfl rfl he6) (SA TK rfl (s_al 0 rfl rfl zero117 rfl (SA TK rfl (TN (WN [1, 2, 8, 9, 10, 11] rfl rfl (RS (SA TK rfl (SA TK rfl (SA TK rfl (SX rfl rfl (build_a rfl plcA117 zero117 rfl rfl rfl rfl) ?_))))))))))
   obtain ⟨g7, hm⟩ := GI hm
   refine SX rfl rfl (A2_int_eq rfl rfl rfl g7.1 g7.2) (TN (WN [1, 2, 9, 10, 11, 19] rfl rfl ?_))
   refine TC _ rfl (fun h9 => ?_) (fun h9 => ?_)
   ·replace hm := JT h9 hm
    refine RS (SA TK rfl (TN (WN [6] rfl rfl (TR (WB (WR ?_))))))
    obtain ⟨v10, hm, hz⟩ := II hm
    rw [hz4 _ hz] at hm
    refine WR (WB ?_)
    obtain ⟨v11, hm, hz⟩ := II hm
    rw [hz1 _ hz] at hm
    refine WR ?_
    obtain rfl := OJ hm
    exact EndsS.one _ rfl (.d _) (.refl _)
   ·replace hm := JF h9 hm
    refine TS (WK (WT (WN [1, 2, 9, 10, 11] rfl rfl (TG ?_))))
    obtain ⟨g12, hm⟩ := GI hm
    refine SX rfl rfl (x_ar rfl rfl rfl rfl g12) (SA TK rfl (TN (WT ?_)))
    exact ⟨_, [], (SJ hm), rfl, k0, rfl⟩
  ·replace hm := JF h5 hm
   refine twp_exit (WX ?_)
   obtain ⟨v13, hm, hz⟩ := II hm
   rw [hz4 _ hz] at hm
   refine WX (WH (WT ?_))
   exact ⟨_, [], (SJ hm), rfl, k0, rfl⟩
 ·refine WN [] rfl rfl (RS (SA TK rfl (TN (WN [6] rfl rfl (TR ?_)))))
  obtain rfl := OJ hm
  exact EndsS.one _ rfl (.d _) (.refl _)

theorem locks_clash_c {p0 : Route} {p1 : Route} {p2 : (List A2_int)} {p3 : (List A2_int)} {r : Bool} (hm : locks_clash p0 p1 p2 p3 = some r) : RetN Tryz.prog 53 [p0.enc, p1.enc, .sl 2 (p2.map A2_int.enc), .sl 2 (p3.map A2_int.enc)] (.bool (r)) := by
 refine .unit (ret_bodyS callB53 Tryz.func53 rfl Tryz.ntmps53 rfl rfl (fun wX gX => ?_)) rfl
 unfold locks_clash at hm
 refine WN [0, 1, 2, 3] rfl rfl (RS (s_bx 0 rfl rfl rfl (s_bx 1 rfl rfl rfl (SA TK rfl (TN (WN [2, 3, 4, 5] rfl rfl (twp_dseq follows  ?_)))))))
 iterate 2 (refine DA [0, 1] TK rfl ?_)
 obtain ⟨r1, hr1, hm⟩ := BI hm
 refine DX [0, 1] rfl rfl (RN rfl rfl (SC (.d _) (SC (.d _) SN)) (conflict_Follows_c hr1)) ?_
 iterate 2 (refine DA [0, 1] TK rfl ?_)
 obtain ⟨r2, hr2, hm⟩ := BI hm
 refine DX [0, 1] rfl rfl (RN rfl rfl (SC (.d _) (SC (.d _) SN)) (conflict_Follows_c hr2)) ?_
 refine DT ?_ (by kernel_rfl)
 refine SA TK rfl (SA TK rfl (TN (WN [2, 3, 9, 10] rfl rfl ?_)))
 refine w_joinS hm (fun _ => ([] : Fr)) (fun _ => ([] : List (Nat × Blk))) [] [] rfl (fun z3 hm hz3 => ?_) (fun j hm => ?_)
 ·refine RS (SA TK rfl (SX rfl rfl (x_len TK rfl rfl rfl) (SA TK rfl (TN (WN [3, 9, 10, 19, 20, 21] rfl rfl (TB (w_loop hm (fun x5 => ([(21, .d (.int .i64 x5))] : Fr)) (fun x5 => ([] : List (Nat × Blk))) [21] [3, 9, 10, 19, 20] [0, 1] rfl k0 rfl rfl rfl rfl rfl (fun x5 z6 hm hz6 => (WN [3, 9, 10, 19, 20, 21] rfl rfl ?_)))))))))
  refine RS (SA TK rfl (TN (WN [3, 9, 10, 19, 20, 21, 22] rfl rfl (TQ ?_))))
  refine TC _ rfl (fun h7 => ?_) (fun h7 => ?_)
  ·replace hm := JT h7 hm
   refine TS (WT (WN [3, 9, 10, 19, 20, 21] rfl rfl (TQ (TB (RS ?_)))))
   obtain ⟨e8, he8, hm⟩ := GV hm
   refine SX rfl rfl (x_ix TK rfl rfl rfl rfl he8) (SA TK rfl (s_al 2 rfl rfl zero117 rfl (SA TK rfl (TN (WN [3, 9, 10, 12, 19, 20, 21] rfl rfl (TQ ?_))))))
   refine w_joinM hm (fun x9 => ([(37, .d (.bool (x9)))] : Fr)) (fun x9 => ([] : List (Nat × Blk))) [37] [3, 9, 10, 12, 19, 20, 21] rfl (fun z10 hm => ?_) (fun x9 hm => ?_)
   ·refine TG (SA TK rfl ?_)
    refine SX rfl rfl (index_arrC rfl asel117 rfl rfl (by decide) (by decide) rfl) ?_
    refine SA TK rfl ?_
    obtain ⟨r11, hr11, hm⟩ := BI hm
    refine SX rfl rfl (RN rfl rfl (SC (.d _) (SC (.d _) (SC (.d _) SN))) (locks_has_c hr11)) (SB TK rfl (fun q12 hq12 => ?_))
    cases q12
    ·replace hm := JB hq12 hm
     iterate 8 (refine SA TK rfl ?_)
     refine TN (WT ?_)
     exact ⟨_, [0, 1, 2], (SJ hm), rfl, k0, rfl⟩
    ·replace hm := JA hq12 hm
     refine SX rfl rfl (index_arrC rfl asel117 rfl rfl (by decide) (by decide) rfl) ?_
     refine SA TK rfl (SA TK rfl (SB TK rfl (fun q13 hq13 => ?_)))
     cases q13
     ·replace hm := JF hq13 hm
      iterate 4 (refine SA TK rfl ?_)
      refine TN (WT ?_)
      exact ⟨_, [0, 1, 2], (SJ hm), rfl, k0, rfl⟩
     ·replace hm := JT hq13 hm
      iterate 4 (refine SA TK rfl ?_)
      refine TN (WT ?_)
      exact ⟨_, [0, 1, 2], (SJ hm), rfl, k0, rfl⟩
   ·refine WN [3, 9, 10, 12, 19, 20, 21, 37] rfl rfl ?_
    refine TC _ rfl (fun h14 => ?_) (fun h14 => ?_)
    ·replace hm := JA h14 hm
     refine RS (SA TK rfl (TN (WN [8] rfl rfl (TR (WR (WB (WR ?_)))))))
     obtain ⟨v15, hm, hz⟩ := II hm
     rw [hz6 _ hz] at hm
     refine WR (WB ?_)
     obtain ⟨v16, hm, hz⟩ := II hm
     rw [hz3 _ hz] at hm
     refine WR ?_
     obtain rfl := OJ hm
     exact EndsS.one _ rfl (.d _) (.refl _)
    ·replace hm := JB h14 hm
     refine TS (WT (WN [3, 9, 10, 12, 19, 20, 21] rfl rfl ?_))
     refine w_joinM hm (fun x17 => ([(54, .d (.bool (x17)))] : Fr)) (fun x17 => ([] : List (Nat × Blk))) [54] [3, 9, 10, 19, 20, 21] rfl (fun z18 hm => ?_) (fun x17 hm => ?_)
     ·refine TG (SA TK rfl ?_)
      refine SX rfl rfl (index_arrC rfl asel117 rfl rfl (by decide) (by decide) rfl) ?_
      refine SA TK rfl ?_
      obtain ⟨r19, hr19, hm⟩ := BI hm
      refine SX rfl rfl (RN rfl rfl (SC (.d _) (SC (.d _) (SC (.d _) SN))) (locks_has_c hr19)) (SB TK rfl (fun q20 hq20 => ?_))
      cases q20
      ·replace hm := JB hq20 hm
       iterate 12 (refine SA TK rfl ?_)
       refine TN (WT ?_)
       exact ⟨_, [0, 1, 2], (SJ hm), rfl, k0, rfl⟩
      ·replace hm := JA hq20 hm
       refine SA TK rfl (SA TK rfl (SA TK rfl (SB TK rfl (fun q21 hq21 => ?_))))
       cases q21
       ·replace hm := JB hq21 hm
        iterate 8 (refine SA TK rfl ?_)
        refine TN (WT ?_)
        exact ⟨_, [0, 1, 2], (SJ hm), rfl, k0, rfl⟩
       ·replace hm := JA hq21 hm
        refine SX rfl rfl (index_arrC rfl asel117 rfl rfl (by decide) (by decide) rfl) ?_
        refine SA TK rfl (SA TK rfl (SB TK rfl (fun q22 hq22 => ?_)))
        cases q22
        ·replace hm := JF hq22 hm
         iterate 4 (refine SA TK rfl ?_)
         refine TN (WT ?_)
         exact ⟨_, [0, 1, 2], (SJ hm), rfl, k0, rfl⟩
        ·replace hm := JT hq22 hm
         iterate 4 (refine SA TK rfl ?_)
         refine TN (WT ?_)
         exact ⟨_, [0, 1, 2], (SJ hm), rfl, k0, rfl⟩
     ·refine WN [3, 9, 10, 19, 20, 21, 54] rfl rfl ?_
      refine TC _ rfl (fun h23 => ?_) (fun h23 => ?_)
      ·replace hm := JA h23 hm
       refine RS (SA TK rfl (TN (WN [8] rfl rfl (TR (WB (WR ?_))))))
       obtain ⟨v24, hm, hz⟩ := II hm
       rw [hz6 _ hz] at hm
       refine WR (WB ?_)
       obtain ⟨v25, hm, hz⟩ := II hm
       rw [hz3 _ hz] at hm
       refine WR ?_
       obtain rfl := OJ hm
       exact EndsS.one _ rfl (.d _) (.refl _)
      ·replace hm := JB h23 hm
       refine TS (WK (WT (WN [3, 9, 10, 19, 20, 21] rfl rfl (TG ?_))))
       obtain ⟨g26, hm⟩ := GI hm
       refine SX rfl rfl (x_ar rfl rfl rfl rfl g26) (SA TK rfl (TN (WT ?_)))
       exact ⟨_, [0, 1], (SJ hm), rfl, k0, rfl⟩
  ·replace hm := JF h7 hm
   refine twp_exit (WX ?_)
   obtain ⟨v27, hm, hz⟩ := II hm
   rw [hz6 _ hz] at hm
   refine WX (WH (WT ?_))
   exact ⟨_, [0, 1], (SJ hm), rfl, k0, rfl⟩
 ·refine WN [] rfl rfl (RS (SA TK rfl (TN (WN [8] rfl rfl (TR ?_)))))
  obtain rfl := OJ hm
  exact EndsS.one _ rfl (.d _) (.refl _)

theorem slices_Contains_int_c {p0 : (List Int)} {p1 : Int} {r : Bool} (hm : slices_Contains_int p0 p1 = some r) : RetN Tryz.prog 63 [.sl 1 (p0.map (D.int .i64)), .int .i64 p1] (.bool (r)) := by
 refine .unit (ret_bodyS callB63 Tryz.func63 rfl Tryz.ntmps63 rfl rfl (fun wX gX => ?_)) rfl
 unfold slices_Contains_int at hm
 refine WN [0, 1] rfl rfl (RS (SA TK rfl (TN (WN [0, 1] rfl rfl (RS (SA TK rfl (SA TK rfl ?_)))))))
 obtain ⟨r1, hr1, hm⟩ := BI hm
 refine SX rfl rfl (RN rfl rfl (SC (.d _) (SC (.d _) SN)) (slices_Index_int_c hr1)) (SA TK rfl (SA TK rfl (TN (WN [4] rfl rfl (TR ?_)))))
 obtain rfl := OJ hm
 exact EndsS.one _ rfl (.d _) (.refl _)

theorem idset_Has_c {p0 : (List Int)} {p1 : Int} {r : Bool} (hm : idset_Has p0 p1 = some r) : RetN Tryz.prog 99 [.sl 1 (p0.map (D.int .i64)), .int .i64 p1] (.bool (r)) := by
 refine .unit (ret_bodyS callB99 Tryz.func99 rfl Tryz.ntmps99 rfl rfl (fun wX gX => ?_)) rfl
 unfold idset_Has at hm
 refine WN [0, 1] rfl rfl (RS (SA TK rfl (TN (WN [0, 1] rfl rfl (RS (SA TK rfl (SA TK rfl ?_)))))))
 obtain ⟨r1, hr1, hm⟩ := BI hm
 refine SX rfl rfl (RN rfl rfl (SC (.d _) (SC (.d _) SN)) (slices_Contains_int_c hr1)) (SA TK rfl (TN (WN [4] rfl rfl (TR ?_))))
 obtain rfl := OJ hm
 exact EndsS.one _ rfl (.d _) (.refl _)

theorem slices_Concat_SettingGrow (n : Nat) (hn : n ≤ 1000000000) (mv : Nat → Bool) : Ret Tryz.prog 129 [] mv ([.nilsl, .int .i64 n].map .d) (.msl 0 2 0 0) [.flat 73 2 []] := by
 refine ret_body callB129 Tryz.func129 rfl Tryz.ntmps129 rfl rfl (fun wX gX => (twp_norm [0, 1] (sub_d rfl (sub_d rfl .nil)) (blk_nil rfl) (RS (s_rd _ rfl (mv_d (.inr rfl) rfl) (TN (twp_norm [0, 1] (sub_d rfl (sub_d rfl .nil)) (blk_nil rfl) (TQ (RS (s_rd _ rfl (mv_d (.inl rfl) rfl) ?_)))))))))
 refine s_rd _ rfl (cmp_int rfl rfl rfl rfl) (TN (twp_norm [0, 1, 6] (sub_d rfl (sub_d rfl (sub_d rfl .nil))) (blk_nil rfl) ?_))
 refine TC _ rfl (fun hneg => ?_) (fun hneg => ?_)
 ·exact absurd (of_decide_eq_true hneg) (by omega)
 ·refine TS (WT (twp_norm [0, 1] (sub_d rfl (sub_d rfl .nil)) (blk_nil rfl) (TQ (RS (s_rd _ rfl (mv_d (.inl rfl) rfl) (s_rd _ rfl (mv_d (.inl rfl) rfl) (s_rd _ rfl (cap_nil rfl sel49 rfl) (s_rd _ rfl (mv_d (.inl rfl) rfl) ?_))))))))
  refine s_rd _ rfl (len_nil rfl sel49 rfl) ?_
  refine s_rd _ rfl (arith_to (r := 0) rfl rfl rfl rfl rfl (by first | omega | (constructor <;> omega))) ?_
  refine s_rd _ rfl (arith_to (r := (n : Int)) rfl rfl rfl rfl (by omega) (by first | omega | (constructor <;> omega))) ?_
  refine s_rd _ rfl (mv_d (.inr rfl) rfl) (TN (twp_norm [0, 1] (sub_d rfl (sub_d rfl .nil)) (blk_nil rfl) (RS (s_rd _ rfl (mv_d (.inl rfl) rfl) (s_rd _ rfl (cmp_int rfl rfl rfl rfl) (TN (twp_norm [0, 1, 16] (sub_d rfl (sub_d rfl (sub_d rfl .nil))) (blk_nil rfl) ?_)))))))
  refine TC _ rfl (fun hpos => ?_) (fun hpos => ?_)
  ·have hpos : 0 < n := by simpa using hpos
   refine TG (s_rd _ rfl (mv_d (.inl rfl) rfl) (s_rd _ rfl (mv_d (.inl rfl) rfl) (s_rd _ rfl (cap_nil rfl sel49 rfl) (s_rd _ rfl (cut_nil rfl sel49 rfl rfl rfl) (s_rd _ rfl (mv_d (.inl rfl) rfl) ?_)))))
   refine s_zeros (n := n) rfl sel49 Tryz.underlying3 zero73 rfl rfl rfl hpos (by decide) (by omega) (by omega) ?_
   refine s_rd _ rfl (mv_d (.inl rfl) rfl) (s_rd _ rfl (len_nil rfl sel49 rfl) (s_rd _ rfl (rd_cut_msl 0 2 16 0 n 0 0 rfl sel49 rfl rfl rfl (Nat.le_refl _) (Nat.zero_le _)) (s_rd _ rfl (mv_msl (.inr rfl) rfl) (TN (WT (twp_norm [0] (sub_msl rfl .nil) (blk_flat rfl (blk_nil rfl)) (RS (s_rd _ rfl (mv_msl (.inl rfl) rfl) ?_))))))))
   refine s_rd _ rfl (mv_msl (.inr rfl) rfl) (TN (twp_norm [4] (sub_msl rfl .nil) (blk_flat rfl (blk_nil rfl)) (TR ?_)))
   exact ⟨_, [0], res rfl, by decide, fun i hi => absurd hi (Nat.not_lt_zero i), rfl, rfl⟩
  ·refine twp_upgrade 0 73 2 rfl (TS (WT (twp_norm [0] (sub_msl rfl .nil) (blk_flat rfl (blk_nil rfl)) (RS (s_rd _ rfl (mv_msl (.inl rfl) rfl) (s_rd _ rfl (mv_msl (.inr rfl) rfl) (TN (twp_norm [4] (sub_msl rfl .nil) (blk_flat rfl (blk_nil rfl)) ?_))))))))
   refine TR ?_
   exact ⟨_, [0], res rfl, by decide, fun i hi => absurd hi (Nat.not_lt_zero i), rfl, rfl⟩

theorem slices_Concat_SettingConcat (xss : List (List Setting)) (hn : xss.length ≤ 1000) (ht : xss.flatten.length ≤ 1000000000) (mv : Nat → Bool) : Ret Tryz.prog 106 [] mv ([.sl 1 (xss.map fun l => .sl 2 (l.map Setting.enc))].map .d) (.msl 0 2 0 xss.flatten.length) [.flat 73 2 (xss.flatten.map Setting.enc)] := by
 refine ret_body callB106 Tryz.func106 rfl Tryz.ntmps106 rfl rfl (fun wX gX => (twp_norm [0] (sub_d rfl .nil) (blk_nil rfl) (RS (s_rd _ rfl (mv_d (.inr rfl) rfl) (TN (twp_norm [0] (sub_d rfl .nil) (blk_nil rfl) (RS (s_rd _ rfl (mv_d (.inr rfl) rfl) (TN ?_)))))))))
 refine twp_norm [0, 3] (sub_d rfl (sub_d rfl .nil)) (blk_nil rfl) (TQ (RS (s_rd _ rfl (mv_d (.inl rfl) rfl) ?_)))
 refine s_rd _ rfl (by first | exact len_d rfl sel145 rfl (by first | exact List.length_map _ | rfl) | exact len_nil rfl sel145 rfl) ?_
 refine s_rd _ rfl (mv_d (.inl rfl) rfl) (TN (twp_norm [0, 3, 9, 10, 11] (sub_d rfl (sub_d rfl (sub_d rfl (sub_d rfl (sub_d rfl .nil))))) (blk_nil rfl) (TB ?_)))
 refine twp_whileK (fun i => ([(3, .d (.int .i64 ((flatTo xss i).length : Int))), (11, .d (.int .i64 ((i : Nat) : Int)))] : Fr)) (fun i => ([] : List (Nat × Blk))) (fun i => i ≤ xss.length) (fun i => xss.length - i) [3, 11] [0, 9, 10] [] 0 (by decide) (fun i hi => absurd hi (Nat.not_lt_zero i)) (Nat.zero_le _) (sub_d rfl (sub_d rfl (sub_d rfl .nil))) rfl (by rw [flat_zero]; rfl) (blk_nil rfl) rfl ?_
 rintro i hok
 refine twp_norm [3, 11, 0, 9, 10] (sub_d rfl (sub_d rfl (sub_d rfl (sub_d rfl (sub_d rfl .nil))))) (blk_nil rfl) (RS (s_rd _ rfl (cmp_int rfl rfl rfl rfl) (TN (twp_norm [0, 3, 9, 10, 11, 12] (sub_d rfl (sub_d rfl (sub_d rfl (sub_d rfl (sub_d rfl (sub_d rfl .nil)))))) (blk_nil rfl) (TQ ?_)))))
 refine TC _ rfl (fun hlt => ?_) (fun hlt => ?_)
 ·have hlt : i < xss.length := by simpa using hlt
  obtain ⟨x, hx⟩ : ∃ x, (xss)[i]? = some x := ⟨_, List.getElem?_eq_getElem (by first | exact hlt | omega | (simp; omega))⟩
  have hs := flat_succ hx
  have hle := flat_le xss (i + 1)
  refine TS (WT (twp_norm [0, 3, 9, 10, 11] (sub_d rfl (sub_d rfl (sub_d rfl (sub_d rfl (sub_d rfl .nil))))) (blk_nil rfl) (TQ (TB (RS (s_rd _ rfl (index_sl rfl sel145 rfl rfl (idx_map hx)) (s_rd _ rfl (load_ptr rfl lay49 rfl rfl) (s_rd _ rfl (mv_d (.inr rfl) rfl) ?_))))))))
  refine TN (twp_norm [0, 3, 5, 9, 10, 11] (sub_d rfl (sub_d rfl (sub_d rfl (sub_d rfl (sub_d rfl (sub_d rfl .nil)))))) (blk_nil rfl) (RS (s_rd _ rfl (mv_d (.inl rfl) rfl) (s_rd _ rfl (mv_d (.inl rfl) rfl) ?_))))
  refine s_rd _ rfl (by first | exact len_d rfl sel49 rfl (by first | exact List.length_map _ | rfl) | exact len_nil rfl sel49 rfl) ?_
  refine s_rd _ rfl (arith_to (r := ((flatTo xss (i + 1)).length : Int)) rfl rfl rfl rfl (by rw [hs]; simp) (by omega)) ?_
  refine s_rd _ rfl (mv_d (.inr rfl) rfl) (TN (twp_norm [0, 3, 9, 10, 11] (sub_d rfl (sub_d rfl (sub_d rfl (sub_d rfl (sub_d rfl .nil))))) (blk_nil rfl) (RS (s_rd _ rfl (mv_d (.inl rfl) rfl) (s_rd _ rfl (cmp_int rfl rfl rfl rfl) (TN (twp_norm [0, 3, 9, 10, 11, 20] (sub_d rfl (sub_d rfl (sub_d rfl (sub_d rfl (sub_d rfl (sub_d rfl .nil)))))) (blk_nil rfl) ?_)))))))
  refine TC _ rfl (fun hneg => ?_) (fun hneg => ?_)
  ·exact absurd (of_decide_eq_true hneg) (by omega)
  ·refine TS (WK (WT (twp_norm [0, 3, 9, 10, 11] (sub_d rfl (sub_d rfl (sub_d rfl (sub_d rfl (sub_d rfl .nil))))) (blk_nil rfl) (TG ?_))))
   refine s_rd _ rfl (arith_ok rfl rfl rfl rfl (by first | omega | (constructor <;> omega))) ?_
   refine s_rd _ rfl (mv_d (.inl rfl) rfl) (TN (WT ?_))
   exact ⟨(i + 1), [], by decide, (fun i hi => absurd hi (Nat.not_lt_zero i)), (by omega), (by omega), rfl⟩
 ·have hge : ¬ i < xss.length := by simpa using hlt
  have hi : i = xss.length := by omega
  refine twp_exit (WX (WX (WH (WT (twp_norm [0, 3] (sub_d rfl (sub_d rfl .nil)) (blk_nil rfl) (RS (s_rd _ rfl (mv_d (.inl rfl) rfl) ?_)))))))
  refine s_callD rfl rfl rfl (slices_Concat_SettingGrow _ (by have := flat_le xss i; omega) (fun _ => false)) rfl rfl ?_
  refine s_rd _ rfl (mv_msl (.inr rfl) rfl) (TN (twp_norm [0, 6] (sub_d rfl (sub_msl rfl .nil)) (blk_flat rfl (blk_nil rfl)) (TQ (RS (s_rd _ rfl (mv_d (.inl rfl) rfl) ?_)))))
  refine s_rd _ rfl (by first | exact len_d rfl sel145 rfl (by first | exact List.length_map _ | rfl) | exact len_nil rfl sel145 rfl) ?_
  refine s_rd _ rfl (mv_d (.inl rfl) rfl) (TN (twp_norm [6, 25, 26, 27] (sub_msl rfl (sub_d rfl (sub_d rfl (sub_d rfl .nil)))) (blk_flat rfl (blk_nil rfl)) (TB ?_)))
  refine twp_whileK (fun i => ([(6, .msl 0 2 0 (flatTo xss i).length), (27, .d (.int .i64 ((i : Nat) : Int)))] : Fr)) (fun i => ([(0, .flat 73 2 ((flatTo xss i).map Setting.enc))] : List (Nat × Blk))) (fun i => i ≤ xss.length) (fun i => xss.length - i) [6, 27] [25, 26] [0] 0 (by decide) (fun i hi => absurd hi (Nat.not_lt_zero i)) (Nat.zero_le _) (sub_d rfl (sub_d rfl .nil)) rfl (by rw [flat_zero]; rfl) (blk_flat rfl (blk_nil rfl)) (by rw [flat_zero]; rfl) ?_
  rintro i hok
  refine twp_norm [6, 27, 25, 26] (sub_msl rfl (sub_d rfl (sub_d rfl (sub_d rfl .nil)))) (blk_flat rfl (blk_nil rfl)) (RS (s_rd _ rfl (cmp_int rfl rfl rfl rfl) (TN (twp_norm [6, 25, 26, 27, 28] (sub_msl rfl (sub_d rfl (sub_d rfl (sub_d rfl (sub_d rfl .nil))))) (blk_flat rfl (blk_nil rfl)) (TQ ?_)))))
  refine TC _ rfl (fun hlt => ?_) (fun hlt => ?_)
  ·have hlt : i < xss.length := by simpa using hlt
   obtain ⟨x, hx⟩ : ∃ x, (xss)[i]? = some x := ⟨_, List.getElem?_eq_getElem (by first | exact hlt | omega | (simp; omega))⟩
   have hs := flat_succ hx
   have hle := flat_le xss (i + 1)
   have hsl : (flatTo xss (i + 1)).length = (flatTo xss i).length + x.length := by rw [hs]; simp
   refine TS (WT (twp_norm [6, 25, 26, 27] (sub_msl rfl (sub_d rfl (sub_d rfl (sub_d rfl .nil)))) (blk_flat rfl (blk_nil rfl)) (TQ (TB (RS (s_rd _ rfl (index_sl rfl sel145 rfl rfl (idx_map hx)) (s_rd _ rfl (load_ptr rfl lay49 rfl rfl) (s_rd _ rfl (mv_d (.inr rfl) rfl) ?_))))))))
   refine TN (twp_norm [6, 8, 25, 26, 27] (sub_msl rfl (sub_d rfl (sub_d rfl (sub_d rfl (sub_d rfl .nil))))) (blk_flat rfl (blk_nil rfl)) (TG (s_rd _ rfl (mv_msl (.inl rfl) rfl) (s_rd _ rfl (mv_d (.inl rfl) rfl) ?_))))
   refine s_append (m := (flatTo xss (i + 1)).length) (ds := x.map Setting.enc) (es' := (flatTo xss (i + 1)).map Setting.enc) rfl sel49 zero73 rfl rfl rfl (by simp) (fun h => absurd h (Nat.not_lt_zero _)) rfl ⟨rfl, (by first | rfl | (simp [List.map_take, List.map_drop]; done) | (rw [← List.map_drop, List.take_of_length_le (by simp)]))⟩ (by rw [hs]; simp) (by simp; omega) (by omega) (by omega) rfl rfl ?_
   refine s_rd _ rfl (mv_msl (.inr rfl) rfl) (TN (WK (WT (twp_norm [6, 25, 26, 27] (sub_msl rfl (sub_d rfl (sub_d rfl (sub_d rfl .nil)))) (blk_flat rfl (blk_nil rfl)) (TG ?_)))))
   refine s_rd _ rfl (arith_ok rfl rfl rfl rfl (by first | omega | (constructor <;> omega))) ?_
   refine s_rd _ rfl (mv_d (.inl rfl) rfl) (TN (WT ?_))
   exact ⟨(i + 1), [0], by decide, (fun i hi => absurd hi (Nat.not_lt_zero i)), (by omega), (by omega), rfl⟩
  ·have hge : ¬ i < xss.length := by simpa using hlt
   have hi : i = xss.length := by omega
   have hall := flat_all hge
   refine twp_exit (WX (WX (WH (WT (twp_norm [6] (sub_msl rfl .nil) (blk_flat rfl (blk_nil rfl)) (RS (s_rd _ rfl (mv_msl (.inl rfl) rfl) (s_rd _ rfl (mv_msl (.inr rfl) rfl) ?_))))))))
   refine TN (twp_norm [2] (sub_msl rfl .nil) (blk_flat rfl (blk_nil rfl)) (TR ?_))
   rw [hall]
   exact ⟨_, [0], res rfl, by decide, fun i hi => absurd hi (Nat.not_lt_zero i), rfl, rfl⟩

theorem slices_Concat_Setting_row {p0 : List (List Setting)} {r : List Setting} (hm : slices_Concat_Setting p0 = some r) : Ret Tryz.prog 106 [] (fun _ => false) ([.sl 1 (p0.map (fun l => D.sl 2 (l.map Setting.enc)))].map .d) (.msl 0 2 0 r.length) [.flat 73 2 (r.map Setting.enc)] := by
 unfold slices_Concat_Setting at hm
 obtain ⟨g, hm⟩ := GI hm
 obtain rfl := OJ hm
 exact slices_Concat_SettingConcat p0 g.1 g.2 (fun _ => false)

theorem cmp_isNaN_int_c {p0 : Int} {r : Bool} (hm : cmp_isNaN_int p0 = some r) : RetN Tryz.prog 131 [.int .i64 p0] (.bool (r)) := by
 refine .unit (ret_bodyS callB131 Tryz.func131 rfl Tryz.ntmps131 rfl rfl (fun wX gX => ?_)) rfl
 unfold cmp_isNaN_int at hm
 refine WN [0] rfl rfl (RS (SA TK rfl (TN (WN [0] rfl rfl (RS ?_)))))
 iterate 4 (refine SA TK rfl ?_)
 refine TN (WN [2] rfl rfl (TR ?_))
 obtain rfl := OJ hm
 exact EndsS.one _ rfl (.d _) (.refl _)

theorem cmp_Compare_int_c {p0 : Int} {p1 : Int} {r : Int} (hm : cmp_Compare_int p0 p1 = some r) : RetN Tryz.prog 110 [.int .i64 p0, .int .i64 p1] (.int .i64 r) := by
 refine .unit (ret_bodyS callB110 Tryz.func110 rfl Tryz.ntmps110 rfl rfl (fun wX gX => ?_)) rfl
 unfold cmp_Compare_int at hm
 refine WN [0, 1] rfl rfl (RS (SA TK rfl (TN (WN [0, 1] rfl rfl (RS (SA TK rfl ?_))))))
 obtain ⟨r1, hr1, hm⟩ := BI hm
 refine SX rfl rfl (RN rfl rfl (SC (.d _) SN) (cmp_isNaN_int_c hr1)) (SA TK rfl (TN (WN [0, 1, 5] rfl rfl (RS (SA TK rfl ?_)))))
 obtain ⟨r2, hr2, hm⟩ := BI hm
 refine SX rfl rfl (RN rfl rfl (SC (.d _) SN) (cmp_isNaN_int_c hr2)) (SA TK rfl (TN (WN [0, 1, 5, 6] rfl rfl (TQ (RS (SA TK rfl (TN (WN [0, 1, 6, 11] rfl rfl ?_))))))))
 refine TC _ rfl (fun h3 => ?_) (fun h3 => ?_)
 ·replace hm := JA h3 hm
  refine TQ (RS (SA TK rfl (TN (WN [12] rfl rfl ?_))))
  refine TC _ rfl (fun h4 => ?_) (fun h4 => ?_)
  ·replace hm := JA h4 hm
   refine RS (SA TK rfl (TN (WN [4] rfl rfl (TR (WR (WR ?_))))))
   obtain rfl := OJ hm
   exact EndsS.one _ rfl (.d _) (.refl _)
  ·replace hm := JB h4 hm
   refine TS (WT (WN [] rfl rfl (RS (SA TK rfl (TN (WN [4] rfl rfl (TR (WR ?_))))))))
   obtain rfl := OJ hm
   exact EndsS.one _ rfl (.d _) (.refl _)
 ·replace hm := JB h3 hm
  refine TS (WT (WN [0, 1, 6] rfl rfl (TQ (RS (SA TK rfl (TN (WN [0, 1, 13] rfl rfl ?_)))))))
  refine TC _ rfl (fun h5 => ?_) (fun h5 => ?_)
  ·replace hm := JA h5 hm
   refine RS (SA TK rfl (TN (WN [4] rfl rfl (TR (WR ?_)))))
   obtain rfl := OJ hm
   exact EndsS.one _ rfl (.d _) (.refl _)
  ·replace hm := JB h5 hm
   refine TS (WT (WN [0, 1] rfl rfl (TQ (RS (SA TK rfl (SA TK rfl (SA TK rfl (TN (WN [0, 1, 16] rfl rfl ?_)))))))))
   refine TC _ rfl (fun h6 => ?_) (fun h6 => ?_)
   ·replace hm := JT h6 hm
    refine RS (SA TK rfl (TN (WN [4] rfl rfl (TR (WR ?_)))))
    obtain rfl := OJ hm
    exact EndsS.one _ rfl (.d _) (.refl _)
   ·replace hm := JF h6 hm
    refine TS (WT (WN [0, 1] rfl rfl (TQ (RS (SA TK rfl (SA TK rfl (SA TK rfl (TN (WN [19] rfl rfl ?_)))))))))
    refine TC _ rfl (fun h7 => ?_) (fun h7 => ?_)
    ·replace hm := JT h7 hm
     refine RS (SA TK rfl (TN (WN [4] rfl rfl (TR (WR ?_)))))
     obtain rfl := OJ hm
     exact EndsS.one _ rfl (.d _) (.refl _)
    ·replace hm := JF h7 hm
     refine TS (WT (WN [] rfl rfl (RS (SA TK rfl (TN (WN [4] rfl rfl (TR ?_)))))))
     obtain rfl := OJ hm
     exact EndsS.one _ rfl (.d _) (.refl _)

theorem cmp_Or_int_c {p0 : (List Int)} {r : Int} (hm : cmp_Or_int p0 = some r) : RetN Tryz.prog 109 [.sl 1 (p0.map (D.int .i64))] (.int .i64 r) := by
 refine .unit (ret_bodyS callB109 Tryz.func109 rfl Tryz.ntmps109 rfl rfl (fun wX gX => ?_)) rfl
 unfold cmp_Or_int at hm
 refine WN [0] rfl rfl (RS (SA TK rfl (TN (WN [0] rfl rfl (RS (SA TK rfl (TN (WN [0, 3] rfl rfl ?_))))))))
 refine w_joinS hm (fun _ => ([] : Fr)) (fun _ => ([] : List (Nat × Blk))) [] [3] rfl (fun z1 hm hz1 => ?_) (fun j hm => ?_)
 ·refine RS (SA TK rfl (SX rfl rfl (x_len TK rfl rfl rfl) (SA TK rfl (TN (WN [3, 6, 7, 8] rfl rfl (TB (w_loop hm (fun x3 => ([(8, .d (.int .i64 x3))] : Fr)) (fun x3 => ([] : List (Nat × Blk))) [8] [3, 6, 7] [] rfl k0 rfl rfl rfl rfl rfl (fun x3 z4 hm hz4 => (WN [3, 6, 7, 8] rfl rfl ?_)))))))))
  refine RS (SA TK rfl (TN (WN [3, 6, 7, 8, 9] rfl rfl (TQ ?_))))
  refine TC _ rfl (fun h5 => ?_) (fun h5 => ?_)
  ·replace hm := JT h5 hm
   refine TS (WT (WN [3, 6, 7, 8] rfl rfl (TQ (TB (RS ?_)))))
   obtain ⟨e6, he6, hm⟩ := GV hm
   refine SX rfl rfl (x_ix TK rfl rfl rfl rfl he6) (SA TK rfl (SA TK rfl (TN (WN [3, 5, 6, 7, 8] rfl rfl (RS (SA TK rfl (SA TK rfl (SA TK rfl (TN (WN [3, 5, 6, 7, 8, 14] rfl rfl ?_))))))))))
   refine TC _ rfl (fun h7 => ?_) (fun h7 => ?_)
   ·replace hm := iteN_T h7 hm
    refine RS (SA TK rfl (SA TK rfl (TN (WN [2] rfl rfl (TR (WB (WR ?_)))))))
    obtain ⟨v8, hm, hz⟩ := II hm
    rw [hz4 _ hz] at hm
    refine WR (WB ?_)
    obtain ⟨v9, hm, hz⟩ := II hm
    rw [hz1 _ hz] at hm
    refine WR ?_
    obtain rfl := OJ hm
    exact EndsS.one _ rfl (.d _) (.refl _)
   ·replace hm := iteN_F h7 hm
    refine TS (WK (WT (WN [3, 6, 7, 8] rfl rfl (TG ?_))))
    obtain ⟨g10, hm⟩ := GI hm
    refine SX rfl rfl (x_ar rfl rfl rfl rfl g10) (SA TK rfl (TN (WT ?_)))
    exact ⟨_, [], (SJ hm), rfl, k0, rfl⟩
  ·replace hm := JF h5 hm
   refine twp_exit (WX ?_)
   obtain ⟨v11, hm, hz⟩ := II hm
   rw [hz4 _ hz] at hm
   refine WX (WH (WT ?_))
   exact ⟨_, [], (SJ hm), rfl, k0, rfl⟩
 ·refine WN [3] rfl rfl (RS (SA TK rfl (SA TK rfl (TN (WN [2] rfl rfl (TR ?_))))))
  obtain rfl := OJ hm
  exact EndsS.one _ rfl (.d _) (.refl _)

theorem table_Settings_c1_c {p0 : Setting} {p1 : Setting} {r : Int} (hm : table_Settings_c1 p0 p1 = some r) : RetN Tryz.prog 108 [p0.enc, p1.enc] (.int .i64 r) := by
 refine .unit (ret_bodyS callB108 Tryz.func108 rfl Tryz.ntmps108 rfl rfl (fun wX gX => ?_)) rfl
 unfold table_Settings_c1 at hm
 refine WN [0, 1] rfl rfl (RS (s_bx 0 rfl rfl rfl (s_bx 1 rfl rfl rfl (SA TK rfl (TN (WN [2, 3] rfl rfl (twp_dseq follows  ?_)))))))
 iterate 4 (refine DA [0, 1] TK rfl ?_)
 obtain ⟨r1, hr1, hm⟩ := BI hm
 refine DX [0, 1] rfl rfl (RN rfl rfl (SC (.d _) (SC (.d _) SN)) (cmp_Compare_int_c hr1)) ?_
 iterate 4 (refine DA [0, 1] TK rfl ?_)
 obtain ⟨r2, hr2, hm⟩ := BI hm
 refine DX [0, 1] rfl rfl (RN rfl rfl (SC (.d _) (SC (.d _) SN)) (cmp_Compare_int_c hr2)) (DX [0, 1] rfl rfl (x_lit [.tmp 9, .tmp 14] TK rfl rfl zero3 rfl rfl rfl rfl rfl) ?_)
 obtain ⟨r3, hr3, hm⟩ := BI hm
 refine DX [0, 1] rfl rfl (RN rfl rfl (SC (.d _) SN) (cmp_Or_int_c hr3)) ?_
 refine DT ?_ (by kernel_rfl)
 refine SA TK rfl (TN (WN [4] rfl rfl (TR ?_)))
 obtain rfl := OJ hm
 exact EndsS.one _ rfl (.d _) (.refl _)

theorem table_Settings_c {p0 : Route} {r : (List Setting)} (hm : table_Settings p0 = some r) : RetD Tryz.prog 70 [p0.enc] (.sl 2 (r.map Setting.enc)) := by
 refine .of (mv := fun _ => false) (ret_bodyS callB70 Tryz.func70 rfl Tryz.ntmps70 rfl rfl (fun wX gX => ?_))
 unfold table_Settings at hm
 refine WN [0] rfl rfl (RS (s_bx 0 rfl rfl rfl (SA TK rfl (TN (WN [1] rfl rfl (RS ?_))))))
 iterate 6 (refine SA TK rfl ?_)
 refine SX rfl rfl (x_lit [.tmp 8, .tmp 10, .tmp 12] TK rfl rfl zero49 rfl rfl rfl rfl rfl) ?_
 obtain ⟨r1, hr1, hm⟩ := BI hm
 refine s_callD rfl rfl rfl (slices_Concat_Setting_row hr1) rfl rfl (s_eq 14 (.msl 1 2 0 r1.length) rfl rfl (SA TK rfl (TN (WN [3] rfl rfl (RS (SA TK rfl ?_))))))
 obtain ⟨g2, hm⟩ := GI hm
 refine s_callW [1] rfl rfl rfl (by simp) rfl rfl rfl (slices_SortFunc_Setting_c table_Settings_c1_sort rfl (fun _ _ _ h => (table_Settings_c1_c h).retD) r1 g2) rfl rfl ?_
 refine s_lno 3 (sortM table_Settings_c1 r1).length rfl (sortM_length _).symm (s_lno 15 (sortM table_Settings_c1 r1).length rfl (sortM_length _).symm (TN (WN [3] rfl rfl (RS (s_nilO (f := Setting.enc) 2 73 2 rfl rfl rfl (TN (WN [3, 4] rfl rfl ?_)))))))
 refine w_joinM hm (fun b3 => ([(4, .msl 2 2 0 b3.length)] : Fr)) (fun b3 => ([(2, .flat 73 2 (b3.map Setting.enc))] : List (Nat × Blk))) [4] [] rfl (fun z4 hm => ?_) (fun b3 hm => ?_)
 ·refine RS (SA TK rfl (SA TK rfl (SA TK rfl (TN (WN [3, 4, 17, 18, 19] rfl rfl (TB (w_loop hm (fun (x8, b9) => ([(4, .msl 2 2 0 b9.length), (19, .d (.int .i64 x8))] : Fr)) (fun (x8, b9) => ([(2, .flat 73 2 (b9.map Setting.enc))] : List (Nat × Blk))) [4, 19] [3, 17, 18] [0, 1, 2] rfl k0 rfl rfl rfl rfl rfl (fun s z10 hm hz10 => ?_))))))))
  obtain ⟨x8, b9⟩ := s
  refine WN [3, 4, 17, 18, 19] rfl rfl (RS (SA TK rfl (TN (WN [3, 4, 17, 18, 19, 20] rfl rfl (TQ ?_)))))
  refine TC _ rfl (fun h11 => ?_) (fun h11 => ?_)
  ·replace hm := JT h11 hm
   refine TS (WT (WN [3, 4, 17, 18, 19] rfl rfl (TQ (TB (RS (SA TK rfl ?_))))))
   obtain ⟨e12, he12, hm⟩ := GV hm
   refine SX rfl rfl (x_ixo TK rfl rfl rfl rfl he12 rfl) (SX rfl rfl (x_ldo TK rfl rfl rfl rfl he12.2 rfl) (s_al 3 rfl rfl zero73 rfl (SA TK rfl (SA TK rfl (TN (WN [3, 4, 5, 6, 17, 18, 19] rfl rfl ?_))))))
   refine w_joinM hm (fun x13 => ([(34, .d (.bool (x13)))] : Fr)) (fun x13 => ([] : List (Nat × Blk))) [34] [3, 4, 6, 17, 18, 19] rfl (fun z14 hm => ?_) (fun x13 hm => ?_)
   ·refine twp_draw follows  ?_
    iterate 2 (refine DA [0, 1, 2, 3] TK rfl ?_)
    refine d_b [0, 1, 2, 3] TK rfl (fun q15 hq15 => ?_)
    cases q15
    ·replace hm := JF hq15 hm
     iterate 3 (refine DA [0, 1, 2, 3] TK rfl ?_)
     obtain ⟨g16, hm⟩ := GI hm
     refine DX [0, 1, 2, 3] rfl rfl (x_ar rfl rfl rfl rfl g16) ?_
     obtain ⟨e17, he17, hm⟩ := GV hm
     refine DX [0, 1, 2, 3] rfl rfl (x_ixo TK rfl rfl rfl rfl he17 rfl) (DX [0, 1, 2, 3] rfl rfl (x_ldo TK rfl rfl rfl rfl he17.2 rfl) ?_)
     obtain ⟨g18, hm⟩ := GI hm
     refine DX [0, 1, 2, 3] rfl rfl (Setting_ne rfl rfl rfl g18.1 g18.2) (DA [0, 1, 2, 3] TK rfl ?_)
     refine DT ?_ (by kernel_rfl)
     refine TN (WT ?_)
     exact ⟨_, [0, 1, 2, 3], (SJ hm), rfl, k0, rfl⟩
    ·replace hm := JT hq15 hm
     iterate 8 (refine DA [0, 1, 2, 3] TK rfl ?_)
     refine DT ?_ (by kernel_rfl)
     refine TN (WT ?_)
     exact ⟨_, [0, 1, 2, 3], (SJ hm), rfl, k0, rfl⟩
   ·refine WN [3, 4, 6, 17, 18, 19, 34] rfl rfl ?_
    refine TC _ rfl (fun h20 => ?_) (fun h20 => ?_)
    ·replace hm := JA h20 hm
     refine TG (SA TK rfl (SA TK rfl (SX rfl rfl (x_lit [.tmp 36] TK rfl rfl zero73 rfl rfl rfl rfl rfl) ?_)))
     obtain ⟨g21, hm⟩ := GI hm
     refine s_app (f := Setting.enc) ([e12] : List Setting) TK rfl rfl zero73 rfl rfl rfl rfl rfl (fun h => absurd h (Nat.not_lt_zero _)) rfl src_d g21 rfl rfl (SA TK rfl (TN (WK (WT (WN [3, 4, 17, 18, 19] rfl rfl (TG ?_))))))
     obtain ⟨g22, hm⟩ := GI hm
     refine SX rfl rfl (x_ar rfl rfl rfl rfl g22) (SA TK rfl (TN (WT ?_)))
     exact ⟨_, [0, 1, 2], (SJ hm), rfl, k0, rfl⟩
    ·replace hm := JB h20 hm
     refine TS (WK (WT (WN [3, 4, 17, 18, 19] rfl rfl (TG ?_))))
     obtain ⟨g23, hm⟩ := GI hm
     refine SX rfl rfl (x_ar rfl rfl rfl rfl g23) (SA TK rfl (TN (WT ?_)))
     exact ⟨_, [0, 1, 2], (SJ hm), rfl, k0, rfl⟩
  ·replace hm := JF h11 hm
   refine twp_exit (WX ?_)
   obtain ⟨v24, hm, hz⟩ := II hm
   rw [hz10 _ hz] at hm
   refine WX (WH (WT ?_))
   exact ⟨_, [0, 1, 2], (SJ hm), rfl, k0, rfl⟩
 ·refine WN [4] rfl rfl (RS (SA TK rfl (SA TK rfl (TN (WN [2] rfl rfl (TR ?_))))))
  obtain rfl := OJ hm
  exact EndsS.one _ rfl (snap_map rfl) (.refl _)

theorem locks_bound_c {p0 : Table} {p1 : Route} {p2 : RouteState} {r : (List Setting)} (hm : locks_bound p0 p1 p2 = some r) : RetD Tryz.prog 54 [p0.enc, p1.enc, p2.enc] (.sl 2 (r.map Setting.enc)) := by
 refine .of (mv := fun _ => false) (ret_bodyS callB54 Tryz.func54 rfl Tryz.ntmps54 rfl rfl (fun wX gX => ?_))
 unfold locks_bound at hm
 refine WN [0, 1, 2] rfl rfl (RS (s_bx 0 rfl rfl rfl (s_bx 1 rfl rfl rfl (s_bx 2 rfl rfl rfl (SA TK rfl (TN (WN [3, 4, 5] rfl rfl (TQ ?_))))))))
 refine RS (SA TK rfl (SA TK rfl (SA TK rfl (TN (WN [3, 4, 5, 12] rfl rfl ?_)))))
 refine TC _ rfl (fun h1 => ?_) (fun h1 => ?_)
 ·replace hm := JT h1 hm
  refine RS (SA TK rfl (TN (c_wk 6 [some 2] rfl (WN [6] rfl rfl (TR (WR ?_))))))
  obtain rfl := OJ hm
  exact EndsS.one _ rfl (.d _) (.refl _)
 ·replace hm := JF h1 hm
  refine TS (WT (WN [3, 4, 5] rfl rfl (RS (s_nilO (f := Setting.enc) 3 73 2 rfl rfl rfl (TN (WN [3, 4, 5, 7] rfl rfl ?_))))))
  refine w_joinM hm (fun b2 => ([(7, .msl 3 2 0 b2.length)] : Fr)) (fun b2 => ([(3, .flat 73 2 (b2.map Setting.enc))] : List (Nat × Blk))) [7] [4] rfl (fun z3 hm => ?_) (fun b2 hm => ?_)
  ·refine RS (SA TK rfl (SA TK rfl (SX rfl rfl (x_len TK rfl rfl rfl) (SA TK rfl (TN (WN [3, 4, 5, 7, 14, 15, 16] rfl rfl (TB (w_loop hm (fun (x7, b8) => ([(7, .msl 3 2 0 b8.length), (16, .d (.int .i64 x7))] : Fr)) (fun (x7, b8) => ([(3, .flat 73 2 (b8.map Setting.enc))] : List (Nat × Blk))) [7, 16] [3, 4, 5, 14, 15] [0, 1, 2, 3] rfl k0 rfl rfl rfl rfl rfl (fun s z9 hm hz9 => ?_)))))))))
   obtain ⟨x7, b8⟩ := s
   refine WN [3, 4, 5, 7, 14, 15, 16] rfl rfl (RS (SA TK rfl (TN (WN [3, 4, 5, 7, 14, 15, 16, 17] rfl rfl (TQ ?_)))))
   refine TC _ rfl (fun h10 => ?_) (fun h10 => ?_)
   ·replace hm := JT h10 hm
    refine TS (WT (WN [3, 4, 5, 7, 14, 15, 16] rfl rfl (TQ (TB (RS ?_)))))
    obtain ⟨e11, he11, hm⟩ := GV hm
    refine SX rfl rfl (x_ix TK rfl rfl rfl rfl he11) (SA TK rfl (s_al 4 rfl rfl zero73 rfl (SA TK rfl (TN (WN [3, 4, 5, 7, 9, 14, 15, 16] rfl rfl (twp_dseq follows  ?_))))))
    iterate 4 (refine DA [0, 1, 2, 3, 4] TK rfl ?_)
    obtain ⟨g12, hm⟩ := GI hm
    refine DX [0, 1, 2, 3, 4] rfl rfl (x_cut TK rfl rfl rfl rfl rfl g12) ?_
    iterate 5 (refine DA [0, 1, 2, 3, 4] TK rfl ?_)
    obtain ⟨r13, hr13, hm⟩ := BI hm
    refine DX [0, 1, 2, 3, 4] rfl rfl (RN rfl rfl (SC (.d _) (SC (.d _) SN)) (table_Index_c hr13)) ?_
    obtain ⟨e14, he14, hm⟩ := GV hm
    refine DX [0, 1, 2, 3, 4] rfl rfl (x_ix TK rfl rfl rfl rfl he14) (DA [0, 1, 2, 3, 4] TK rfl ?_)
    obtain ⟨r15, hr15, hm⟩ := BI hm
    refine DX [0, 1, 2, 3, 4] rfl rfl (RN rfl rfl (SC (.d _) (SC (.d _) SN)) (idset_Has_c hr15)) (DA [0, 1, 2, 3, 4] TK rfl ?_)
    refine DT ?_ (by kernel_rfl)
    refine TN (WN [3, 4, 5, 7, 9, 14, 15, 16, 34] rfl rfl ?_)
    refine TC _ rfl (fun h16 => ?_) (fun h16 => ?_)
    ·replace hm := JA h16 hm
     refine TG (SA TK rfl (SA TK rfl (SX rfl rfl (x_lit [.tmp 36] TK rfl rfl zero73 rfl rfl rfl rfl rfl) ?_)))
     obtain ⟨g17, hm⟩ := GI hm
     refine s_app (f := Setting.enc) ([e11] : List Setting) TK rfl rfl zero73 rfl rfl rfl rfl rfl (fun h => absurd h (Nat.not_lt_zero _)) rfl src_d g17 rfl rfl (SA TK rfl (TN (WK (WT (WN [3, 4, 5, 7, 14, 15, 16] rfl rfl (TG ?_))))))
     obtain ⟨g18, hm⟩ := GI hm
     refine SX rfl rfl (x_ar rfl rfl rfl rfl g18) (SA TK rfl (TN (WT ?_)))
     exact ⟨_, [0, 1, 2, 3], (SJ hm), rfl, k0, rfl⟩
    ·replace hm := JB h16 hm
     refine TS (WK (WT (WN [3, 4, 5, 7, 14, 15, 16] rfl rfl (TG ?_))))
     obtain ⟨g19, hm⟩ := GI hm
     refine SX rfl rfl (x_ar rfl rfl rfl rfl g19) (SA TK rfl (TN (WT ?_)))
     exact ⟨_, [0, 1, 2, 3], (SJ hm), rfl, k0, rfl⟩
   ·replace hm := JF h10 hm
    refine twp_exit (WX ?_)
    obtain ⟨v20, hm, hz⟩ := II hm
    rw [hz9 _ hz] at hm
    refine WX (WH (WT ?_))
    exact ⟨_, [0, 1, 2, 3], (SJ hm), rfl, k0, rfl⟩
  ·refine WN [4, 7] rfl rfl ?_
   refine c_frzO 7 3 [4] rfl rfl rfl rfl rfl (by simp) rfl rfl ?_
   refine RS ?_
   iterate 5 (refine SA TK rfl ?_)
   refine SX rfl rfl (build_d rfl plc52 zero52 rfl rfl rfl rfl) (s_wk 45 [none, none, none, some 3, none, some 1, none, none, some 3, none, some 1, none, some 1, some 2] rfl ?_)
   obtain ⟨r21, hr21, hm⟩ := BI hm
   refine SX rfl rfl (RD rfl rfl rfl (table_Settings_c hr21)) (SA TK rfl (TN (WN [6] rfl rfl (TR ?_))))
   obtain rfl := OJ hm
   exact EndsS.one _ rfl (.d _) (.refl _)

end Go.Proofs.YtdhicpmpefkojaaGreat

set_option maxHeartbeats 8000000
set_option linter.unusedSimpArgs false
set_option linter.unusedVariables false
set_option maxRecDepth 20000
namespace Go.Proofs.YtdhicpmpefkojaaGreat
open Go Go.TL

theorem locks_Sound_c {p0 : Table} {p1 : Inter} {r : Bool} (hm : locks_Sound p0 p1 = some r) : RetN Tryz.prog 27 [p0.enc, p1.enc] (.bool (r)) := by
 refine .unit (ret_bodyS callB27 Tryz.func27 rfl Tryz.ntmps27 rfl rfl (fun wX gX => ?_)) rfl
 unfold locks_Sound at hm
 refine WN [0, 1] rfl rfl (RS (s_bx 0 rfl rfl rfl (s_bx 1 rfl rfl rfl (SA TK rfl (TN (WN [2, 3] rfl rfl (TQ (RS ?_))))))))
 refine SA TK rfl (SA TK rfl ?_)
 obtain ⟨r1, hr1, hm⟩ := BI hm
 refine SX rfl rfl (RN rfl rfl (SC (.d _) (SC (.d _) SN)) (locks_fits_c hr1)) (SA TK rfl (TN (WN [2, 3, 17] rfl rfl ?_)))
 refine TC _ rfl (fun h2 => ?_) (fun h2 => ?_)
 ·replace hm := JA h2 hm
  refine RS (SA TK rfl (TN (WN [4] rfl rfl (TR (WR ?_)))))
  obtain rfl := OJ hm
  exact EndsS.one _ rfl (.d _) (.refl _)
 ·replace hm := JB h2 hm
  refine TS (WT (WN [2, 3] rfl rfl (RS (s_nilO (f := (fun (l : List A2_int) => D.sl 2 (l.map A2_int.enc))) 2 83 1 rfl rfl rfl (TN (WN [2, 3, 5] rfl rfl ?_))))))
  refine w_joinM hm (fun b3 => ([(5, .msl 2 1 0 b3.length)] : Fr)) (fun b3 => ([(2, .flat 83 1 (b3.map (fun (l : List A2_int) => D.sl 2 (l.map A2_int.enc))))] : List (Nat × Blk))) [5] [2, 3] rfl (fun z4 hm => ?_) (fun b3 hm => ?_)
  ·refine RS (SA TK rfl (SA TK rfl (SX rfl rfl (x_len TK rfl rfl rfl) (SA TK rfl (TN (WN [2, 3, 5, 19, 20, 21] rfl rfl (TB (w_loop hm (fun (x8, b9) => ([(5, .msl 2 1 0 b9.length), (21, .d (.int .i64 x8))] : Fr)) (fun (x8, b9) => ([(2, .flat 83 1 (b9.map (fun (l : List A2_int) => D.sl 2 (l.map A2_int.enc))))] : List (Nat × Blk))) [5, 21] [2, 3, 19, 20] [0, 1, 2] rfl k0 rfl rfl rfl rfl rfl (fun s z10 hm hz10 => ?_)))))))))
   obtain ⟨x8, b9⟩ := s
   refine WN [2, 3, 5, 19, 20, 21] rfl rfl (RS (SA TK rfl (TN (WN [2, 3, 5, 19, 20, 21, 22] rfl rfl (TQ ?_)))))
   refine TC _ rfl (fun h11 => ?_) (fun h11 => ?_)
   ·replace hm := JT h11 hm
    refine TS (WT (WN [2, 3, 5, 19, 20, 21] rfl rfl (TQ (TB (RS (SA TK rfl ?_))))))
    obtain ⟨e12, he12, hm⟩ := GV hm
    refine SX rfl rfl (x_ix TK rfl rfl rfl rfl he12) (SA TK rfl (s_al 3 rfl rfl zero52 rfl (s_wkb 3 [none, none, none, some 3, some 2, some 1, none, none, some 3, some 2, some 1, some 2, some 1, some 2] rfl rfl (SA TK rfl (SA TK rfl (TN (WN [2, 3, 5, 6, 7, 19, 20, 21] rfl rfl (twp_draw follows  ?_))))))))
    iterate 5 (refine DA [0, 1, 2, 3] TK rfl ?_)
    obtain ⟨e13, he13, hm⟩ := GV hm
    refine DX [0, 1, 2, 3] rfl rfl (x_ix TK rfl rfl rfl rfl he13) (DA [0, 1, 2, 3] TK rfl ?_)
    obtain ⟨r14, hr14, hm⟩ := BI hm
    refine DX [0, 1, 2, 3] rfl rfl (RD rfl rfl rfl (locks_locked_c hr14)) (DX [0, 1, 2, 3] rfl rfl (x_lit [.tmp 33] TK rfl rfl zero83 rfl rfl rfl rfl rfl) ?_)
    refine DT ?_ (by kernel_rfl)
    obtain ⟨g15, hm⟩ := GI hm
    refine s_app (f := (fun (l : List A2_int) => D.sl 2 (l.map A2_int.enc))) ([r14] : List (List A2_int)) TK rfl rfl zero83 rfl rfl rfl rfl rfl (fun h => absurd h (Nat.not_lt_zero _)) rfl src_d g15 rfl rfl (SA TK rfl (TN (WK (WT (WN [2, 3, 5, 19, 20, 21] rfl rfl (TG ?_))))))
    obtain ⟨g16, hm⟩ := GI hm
    refine SX rfl rfl (x_ar rfl rfl rfl rfl g16) (SA TK rfl (TN (WT ?_)))
    exact ⟨_, [0, 1, 2], (SJ hm), rfl, k0, rfl⟩
   ·replace hm := JF h11 hm
    refine twp_exit (WX ?_)
    obtain ⟨v17, hm, hz⟩ := II hm
    rw [hz10 _ hz] at hm
    refine WX (WH (WT ?_))
    exact ⟨_, [0, 1, 2], (SJ hm), rfl, k0, rfl⟩
  ·refine WN [2, 3, 5] rfl rfl ?_
   refine w_joinS hm (fun _ => ([] : Fr)) (fun _ => ([] : List (Nat × Blk))) [] [2, 3] rfl (fun z18 hm hz18 => ?_) (fun j hm => ?_)
   ·refine RS (SA TK rfl (SA TK rfl (SX rfl rfl (x_len TK rfl rfl rfl) (SA TK rfl (TN (WN [2, 3, 5, 39, 40] rfl rfl (TB (w_loop hm (fun x20 => ([(40, .d (.int .i64 x20))] : Fr)) (fun x20 => ([] : List (Nat × Blk))) [40] [2, 3, 5, 39] [0, 1, 2] rfl k0 rfl rfl rfl rfl rfl (fun x20 z21 hm hz21 => (WN [2, 3, 5, 39, 40] rfl rfl ?_))))))))))
    refine RS (SA TK rfl (TN (WN [2, 3, 5, 39, 40, 41] rfl rfl (TQ ?_))))
    refine TC _ rfl (fun h22 => ?_) (fun h22 => ?_)
    ·replace hm := JT h22 hm
     refine TS (WT (WN [2, 3, 5, 39, 40] rfl rfl ?_))
     refine w_joinS hm (fun _ => ([] : Fr)) (fun _ => ([] : List (Nat × Blk))) [] [2, 3, 5, 39, 40] rfl (fun z23 hm hz23 => ?_) (fun j hm => ?_)
     ·refine TB (RS (SA TK rfl (SA TK rfl (TN (WN [2, 3, 5, 8, 39, 40] rfl rfl (RS (SA TK rfl (SA TK rfl (TN (WN [2, 3, 5, 8, 39, 40, 43, 44] rfl rfl ?_))))))))))
      refine TB (w_loop hm (fun x25 => ([(44, .d (.int .i64 x25))] : Fr)) (fun x25 => ([] : List (Nat × Blk))) [44] [2, 3, 5, 8, 39, 40, 43] [0, 1, 2] rfl k0 rfl rfl rfl rfl rfl (fun x25 z26 hm hz26 => (WN [2, 3, 5, 8, 39, 40, 43, 44] rfl rfl (RS (SA TK rfl (TN (WN [2, 3, 5, 8, 39, 40, 43, 44, 45] rfl rfl (TQ ?_))))))))
      refine TC _ rfl (fun h27 => ?_) (fun h27 => ?_)
      ·replace hm := JT h27 hm
       refine TS (WT (WN [2, 3, 5, 8, 39, 40, 43, 44] rfl rfl (TQ (TB (RS (SA TK rfl (SA TK rfl (TN (WN [2, 3, 5, 8, 9, 39, 40, 43, 44] rfl rfl ?_)))))))))
       refine twp_dseq follows  ?_
       iterate 3 (refine DA [0, 1, 2] TK rfl ?_)
       obtain ⟨e28, he28, hm⟩ := GV hm
       refine DX [0, 1, 2] rfl rfl (x_ix TK rfl rfl rfl rfl he28) ?_
       iterate 4 (refine DA [0, 1, 2] TK rfl ?_)
       obtain ⟨e29, he29, hm⟩ := GV hm
       refine DX [0, 1, 2] rfl rfl (x_ix TK rfl rfl rfl rfl he29) ?_
       iterate 3 (refine DA [0, 1, 2] TK rfl ?_)
       obtain ⟨e30, he30, hm⟩ := GV hm
       refine DX [0, 1, 2] rfl rfl (x_ixo TK rfl rfl rfl rfl he30 rfl) (DX [0, 1, 2] rfl rfl (x_ldo TK rfl rfl rfl rfl he30.2 rfl) ?_)
       iterate 2 (refine DA [0, 1, 2] TK rfl ?_)
       obtain ⟨e31, he31, hm⟩ := GV hm
       refine DX [0, 1, 2] rfl rfl (x_ixo TK rfl rfl rfl rfl he31 rfl) (DX [0, 1, 2] rfl rfl (x_ldo TK rfl rfl rfl rfl he31.2 rfl) ?_)
       obtain ⟨r32, hr32, hm⟩ := BI hm
       refine DX [0, 1, 2] rfl rfl (RN rfl rfl (SC (.d _) (SC (.d _) (SC (.d _) (SC (.d _) SN)))) (locks_clash_c hr32)) ?_
       refine DT ?_ (by kernel_rfl)
       refine TN (WN [2, 3, 5, 8, 39, 40, 43, 44, 65] rfl rfl ?_)
       refine TC _ rfl (fun h33 => ?_) (fun h33 => ?_)
       ·replace hm := JA h33 hm
        refine RS (SA TK rfl (TN (WN [4] rfl rfl (TR (WB (WR ?_))))))
        obtain ⟨v34, hm, hz⟩ := II hm
        rw [hz26 _ hz] at hm
        refine WR (WB (WB ?_))
        obtain ⟨v35, hm, hz⟩ := II hm
        rw [hz23 _ hz] at hm
        refine WR ?_
        obtain ⟨v36, hm, hz⟩ := II hm
        rw [hz21 _ hz] at hm
        refine WR (WB ?_)
        obtain ⟨v37, hm, hz⟩ := II hm
        rw [hz18 _ hz] at hm
        refine WR ?_
        obtain rfl := OJ hm
        exact EndsS.one _ rfl (.d _) (.refl _)
       ·replace hm := JB h33 hm
        refine TS (WK (WT (WN [2, 3, 5, 8, 39, 40, 43, 44] rfl rfl (TG ?_))))
        obtain ⟨g38, hm⟩ := GI hm
        refine SX rfl rfl (x_ar rfl rfl rfl rfl g38) (SA TK rfl (TN (WT ?_)))
        exact ⟨_, [0, 1, 2], (SJ hm), rfl, k0, rfl⟩
      ·replace hm := JF h27 hm
       refine twp_exit (WX ?_)
       obtain ⟨v39, hm, hz⟩ := II hm
       rw [hz26 _ hz] at hm
       refine WX (WH (WK (WT ?_)))
       exact ⟨_, [0, 1, 2], (SJ hm), rfl, k0, rfl⟩
     ·refine WN [2, 3, 5, 39, 40] rfl rfl (TG ?_)
      obtain ⟨g40, hm⟩ := GI hm
      refine SX rfl rfl (x_ar rfl rfl rfl rfl g40) (SA TK rfl (TN (WT ?_)))
      exact ⟨_, [0, 1, 2], (SJ hm), rfl, k0, rfl⟩
    ·replace hm := JF h22 hm
     refine twp_exit (WX ?_)
     obtain ⟨v41, hm, hz⟩ := II hm
     rw [hz21 _ hz] at hm
     refine WX (WH (WT ?_))
     exact ⟨_, [0, 1, 2], (SJ hm), rfl, k0, rfl⟩
   ·refine WN [2, 3] rfl rfl ?_
    refine w_joinS hm (fun _ => ([] : Fr)) (fun _ => ([] : List (Nat × Blk))) [] [] rfl (fun z42 hm hz42 => ?_) (fun j hm => ?_)
    ·refine RS (SA TK rfl (SA TK rfl (SX rfl rfl (x_len TK rfl rfl rfl) (SA TK rfl (TN (WN [2, 3, 69, 70, 71] rfl rfl (TB (w_loop hm (fun x44 => ([(71, .d (.int .i64 x44))] : Fr)) (fun x44 => ([] : List (Nat × Blk))) [71] [2, 3, 69, 70] [0, 1, 2] rfl k0 rfl rfl rfl rfl rfl (fun x44 z45 hm hz45 => (WN [2, 3, 69, 70, 71] rfl rfl ?_))))))))))
     refine RS (SA TK rfl (TN (WN [2, 3, 69, 70, 71, 72] rfl rfl (TQ ?_))))
     refine TC _ rfl (fun h46 => ?_) (fun h46 => ?_)
     ·replace hm := JT h46 hm
      refine TS (WT (WN [2, 3, 69, 70, 71] rfl rfl ?_))
      refine w_joinS hm (fun _ => ([] : Fr)) (fun _ => ([] : List (Nat × Blk))) [] [2, 3, 69, 70, 71] rfl (fun z47 hm hz47 => ?_) (fun j hm => ?_)
      ·refine TB (RS (SA TK rfl ?_))
       obtain ⟨e48, he48, hm⟩ := GV hm
       refine SX rfl rfl (x_ix TK rfl rfl rfl rfl he48) (SA TK rfl (s_al 3 rfl rfl zero52 rfl (s_wkb 3 [none, none, none, some 3, some 2, some 1, none, none, some 3, some 2, some 1, some 2, some 1, some 2] rfl rfl (SA TK rfl (SA TK rfl (TN (WN [2, 3, 10, 11, 69, 70, 71] rfl rfl (twp_dseq follows  ?_))))))))
       iterate 5 (refine DA [0, 1, 2, 3] TK rfl ?_)
       obtain ⟨e49, he49, hm⟩ := GV hm
       refine DX [0, 1, 2, 3] rfl rfl (x_ix TK rfl rfl rfl rfl he49) (DA [0, 1, 2, 3] TK rfl ?_)
       obtain ⟨r50, hr50, hm⟩ := BI hm
       refine DX [0, 1, 2, 3] rfl rfl (RD rfl rfl rfl (locks_bound_c hr50)) (DX [0, 1, 2, 3] rfl rfl (x_len TK rfl rfl rfl) (DA [0, 1, 2, 3] TK rfl ?_))
       refine DT ?_ (by kernel_rfl)
       refine TN (WN [2, 3, 69, 70, 71, 83, 84, 85] rfl rfl (TB (w_loop hm (fun x52 => ([(85, .d (.int .i64 x52))] : Fr)) (fun x52 => ([] : List (Nat × Blk))) [85] [2, 3, 69, 70, 71, 83, 84] [0, 1, 2] rfl k0 rfl rfl rfl rfl rfl (fun x52 z53 hm hz53 => (WN [2, 3, 69, 70, 71, 83, 84, 85] rfl rfl (RS (SA TK rfl (TN (WN [2, 3, 69, 70, 71, 83, 84, 85, 86] rfl rfl ?_)))))))))
       refine TQ ?_
       refine TC _ rfl (fun h54 => ?_) (fun h54 => ?_)
       ·replace hm := JT h54 hm
        refine TS (WT (WN [2, 3, 69, 70, 71, 83, 84, 85] rfl rfl (TQ (TB (RS ?_)))))
        obtain ⟨e55, he55, hm⟩ := GV hm
        refine SX rfl rfl (x_ix TK rfl rfl rfl rfl he55) (SA TK rfl (s_al 3 rfl rfl zero73 rfl (SA TK rfl (TN (WN [2, 3, 13, 69, 70, 71, 83, 84, 85] rfl rfl (twp_dseq follows  ?_))))))
        iterate 5 (refine DA [0, 1, 2, 3] TK rfl ?_)
        obtain ⟨r56, hr56, hm⟩ := BI hm
        refine DX [0, 1, 2, 3] rfl rfl (RN rfl rfl (SC (.d _) (SC (.d _) SN)) (table_Index_c hr56)) ?_
        obtain ⟨e57, he57, hm⟩ := GV hm
        refine DX [0, 1, 2, 3] rfl rfl (x_ix TK rfl rfl rfl rfl he57) ?_
        iterate 4 (refine DA [0, 1, 2, 3] TK rfl ?_)
        refine DT ?_ (by kernel_rfl)
        refine TN (WN [2, 3, 69, 70, 71, 83, 84, 85, 99] rfl rfl ?_)
        refine TC _ rfl (fun h58 => ?_) (fun h58 => ?_)
        ·replace hm := iteN_T h58 hm
         refine RS (SA TK rfl (TN (WN [4] rfl rfl (TR (WB (WR ?_))))))
         obtain ⟨v59, hm, hz⟩ := II hm
         rw [hz53 _ hz] at hm
         refine WR (WB (WB ?_))
         obtain ⟨v60, hm, hz⟩ := II hm
         rw [hz47 _ hz] at hm
         refine WR ?_
         obtain ⟨v61, hm, hz⟩ := II hm
         rw [hz45 _ hz] at hm
         refine WR (WB ?_)
         obtain ⟨v62, hm, hz⟩ := II hm
         rw [hz42 _ hz] at hm
         refine WR ?_
         obtain rfl := OJ hm
         exact EndsS.one _ rfl (.d _) (.refl _)
        ·replace hm := iteN_F h58 hm
         refine TS (WK (WT (WN [2, 3, 69, 70, 71, 83, 84, 85] rfl rfl (TG ?_))))
         obtain ⟨g63, hm⟩ := GI hm
         refine SX rfl rfl (x_ar rfl rfl rfl rfl g63) (SA TK rfl (TN (WT ?_)))
         exact ⟨_, [0, 1, 2], (SJ hm), rfl, k0, rfl⟩
       ·replace hm := JF h54 hm
        refine twp_exit (WX ?_)
        obtain ⟨v64, hm, hz⟩ := II hm
        rw [hz53 _ hz] at hm
        refine WX (WH (WK (WT ?_)))
        exact ⟨_, [0, 1, 2], (SJ hm), rfl, k0, rfl⟩
      ·refine WN [2, 3, 69, 70, 71] rfl rfl (TG ?_)
       obtain ⟨g65, hm⟩ := GI hm
       refine SX rfl rfl (x_ar rfl rfl rfl rfl g65) (SA TK rfl (TN (WT ?_)))
       exact ⟨_, [0, 1, 2], (SJ hm), rfl, k0, rfl⟩
     ·replace hm := JF h46 hm
      refine twp_exit (WX ?_)
      obtain ⟨v66, hm, hz⟩ := II hm
      rw [hz45 _ hz] at hm
      refine WX (WH (WT ?_))
      exact ⟨_, [0, 1, 2], (SJ hm), rfl, k0, rfl⟩
    ·refine WN [] rfl rfl (RS (SA TK rfl (TN (WN [4] rfl rfl (TR ?_)))))
     obtain rfl := OJ hm
     exact EndsS.one _ rfl (.d _) (.refl _)

theorem slices_IndexFunc_int_c {p0 : (List Int)} {p1 : Int → Option Bool} {c1 : D} (hf1 : ∀ a0 r, p1 a0 = some r → ∃ F cs, fnOf c1 = some (F, cs) ∧ RetD Tryz.prog F ([.int .i64 a0] ++ cs) (.bool (r))) {r : Int} (hm : slices_IndexFunc_int p0 p1 = some r) : RetN Tryz.prog 116 [.sl 1 (p0.map (D.int .i64)), c1] (.int .i64 r) := by
 refine .unit (ret_bodyS callB116 Tryz.func116 rfl Tryz.ntmps116 rfl rfl (fun wX gX => ?_)) rfl
 unfold slices_IndexFunc_int at hm
 refine WN [0, 1] rfl rfl (RS (SA TK rfl (TN (WN [0, 1] rfl rfl ?_))))
 refine w_joinS hm (fun _ => ([] : Fr)) (fun _ => ([] : List (Nat × Blk))) [] [] rfl (fun z1 hm hz1 => ?_) (fun j hm => ?_)
 ·refine RS (SA TK rfl (SX rfl rfl (x_len TK rfl rfl rfl) (SA TK rfl (TN (WN [0, 1, 7, 8] rfl rfl (TB (w_loop hm (fun x3 => ([(8, .d (.int .i64 x3))] : Fr)) (fun x3 => ([] : List (Nat × Blk))) [8] [0, 1, 7] [] rfl k0 rfl rfl rfl rfl rfl (fun x3 z4 hm hz4 => (WN [0, 1, 7, 8] rfl rfl ?_)))))))))
  refine RS (SA TK rfl (TN (WN [0, 1, 7, 8, 9] rfl rfl (TQ ?_))))
  refine TC _ rfl (fun h5 => ?_) (fun h5 => ?_)
  ·replace hm := JT h5 hm
   refine TS (WT (WN [0, 1, 7, 8] rfl rfl (TQ (TB (RS (SA TK rfl (SA TK rfl (TN (WN [0, 1, 5, 7, 8] rfl rfl ?_)))))))))
   refine RS (SA TK rfl (SA TK rfl (SA TK rfl ?_)))
   obtain ⟨e6, he6, hm⟩ := GV hm
   refine SX rfl rfl (x_ix TK rfl rfl rfl rfl he6) (SA TK rfl ?_)
   obtain ⟨r7, hr7, hm⟩ := BI hm
   obtain ⟨Fr7, csr7, hFr7, hcr7⟩ := hf1 _ _ hr7
   refine SX rfl rfl (rd_callC rfl rfl hFr7 rfl hcr7) (TN (WN [0, 1, 5, 7, 8, 16] rfl rfl ?_))
   refine TC _ rfl (fun h8 => ?_) (fun h8 => ?_)
   ·replace hm := JA h8 hm
    refine RS (SA TK rfl (SA TK rfl (TN (WN [4] rfl rfl (TR (WB (WR ?_)))))))
    obtain ⟨v9, hm, hz⟩ := II hm
    rw [hz4 _ hz] at hm
    refine WR (WB ?_)
    obtain ⟨v10, hm, hz⟩ := II hm
    rw [hz1 _ hz] at hm
    refine WR ?_
    obtain rfl := OJ hm
    exact EndsS.one _ rfl (.d _) (.refl _)
   ·replace hm := JB h8 hm
    refine TS (WK (WT (WN [0, 1, 7, 8] rfl rfl (TG ?_))))
    obtain ⟨g11, hm⟩ := GI hm
    refine SX rfl rfl (x_ar rfl rfl rfl rfl g11) (SA TK rfl (TN (WT ?_)))
    exact ⟨_, [], (SJ hm), rfl, k0, rfl⟩
  ·replace hm := JF h5 hm
   refine twp_exit (WX ?_)
   obtain ⟨v12, hm, hz⟩ := II hm
   rw [hz4 _ hz] at hm
   refine WX (WH (WT ?_))
   exact ⟨_, [], (SJ hm), rfl, k0, rfl⟩
 ·refine WN [] rfl rfl (RS (SA TK rfl (TN (WN [4] rfl rfl (TR ?_)))))
  obtain rfl := OJ hm
  exact EndsS.one _ rfl (.d _) (.refl _)

theorem slices_ContainsFunc_int_c {p0 : (List Int)} {p1 : Int → Option Bool} {c1 : D} (hf1 : ∀ a0 r, p1 a0 = some r → ∃ F cs, fnOf c1 = some (F, cs) ∧ RetD Tryz.prog F ([.int .i64 a0] ++ cs) (.bool (r))) {r : Bool} (hm : slices_ContainsFunc_int p0 p1 = some r) : RetN Tryz.prog 90 [.sl 1 (p0.map (D.int .i64)), c1] (.bool (r)) := by
 refine .unit (ret_bodyS callB90 Tryz.func90 rfl Tryz.ntmps90 rfl rfl (fun wX gX => ?_)) rfl
 unfold slices_ContainsFunc_int at hm
 refine WN [0, 1] rfl rfl (RS (SA TK rfl (TN (WN [0, 1] rfl rfl (RS (SA TK rfl (SA TK rfl ?_)))))))
 obtain ⟨r1, hr1, hm⟩ := BI hm
 refine SX rfl rfl (RN rfl rfl (SC (.d _) (SC (.d _) SN)) (slices_IndexFunc_int_c hf1 hr1)) (SA TK rfl (SA TK rfl (TN (WN [4] rfl rfl (TR ?_)))))
 obtain rfl := OJ hm
 exact EndsS.one _ rfl (.d _) (.refl _)

theorem progress_fits_c1_c {p0 : Int} {r : Bool} (hm : progress_fits_c1 p0 = some r) : RetN Tryz.prog 102 [.int .i64 p0] (.bool (r)) := by
 refine .unit (ret_bodyS callB102 Tryz.func102 rfl Tryz.ntmps102 rfl rfl (fun wX gX => ?_)) rfl
 unfold progress_fits_c1 at hm
 refine WN [0] rfl rfl (RS (SA TK rfl (TN (WN [0] rfl rfl ?_))))
 refine w_cut [(2, .d (.bool (((!(decide (p0 = (1 : Int)))) && (!(decide (p0 = (2 : Int))))))))] [2] [] rfl ?_ ?_
 ·refine TG (SA TK rfl (SA TK rfl (SB TK rfl (fun q1 hq1 => ?_))))
  cases q1
  ·iterate 4 (refine SA TK rfl ?_)
   refine TN (WT ?_)
   exact ⟨[], rfl, k0, st_eq (fr_cons (av_bool (by simp [hq1])) rfl) rfl⟩
  ·iterate 4 (refine SA TK rfl ?_)
   refine TN (WT ?_)
   exact ⟨[], rfl, k0, st_eq (fr_cons (av_bool (by simp [hq1])) rfl) rfl⟩
 ·refine WN [2] rfl rfl (TR ?_)
  obtain rfl := OJ hm
  exact EndsS.one _ rfl (.d _) (.refl _)

theorem progress_fits_c {p0 : Table} {p1 : Inter} {r : Bool} (hm : progress_fits p0 p1 = some r) : RetN Tryz.prog 62 [p0.enc, p1.enc] (.bool (r)) := by
 refine .unit (ret_bodyS callB62 Tryz.func62 rfl Tryz.ntmps62 rfl rfl (fun wX gX => ?_)) rfl
 unfold progress_fits at hm
 refine WN [0, 1] rfl rfl (RS (s_bx 0 rfl rfl rfl (s_bx 1 rfl rfl rfl (SA TK rfl (TN (WN [2, 3] rfl rfl (TQ ?_)))))))
 refine w_joinM hm (fun x1 => ([(29, .d (.bool (x1)))] : Fr)) (fun x1 => ([] : List (Nat × Blk))) [29] [2, 3] rfl (fun z2 hm => ?_) (fun x1 hm => ?_)
 ·refine TG (SA TK rfl ?_)
  obtain ⟨r3, hr3, hm⟩ := BI hm
  refine SX rfl rfl (RN rfl rfl (SC (.d _) SN) (table_Check_c hr3)) (SA TK rfl (SB TK rfl (fun q4 hq4 => ?_)))
  cases q4
  ·replace hm := iteN_F hq4 hm
   refine SA TK rfl (SA TK rfl (SX rfl rfl (x_len TK rfl rfl rfl) (SA TK rfl (SA TK rfl (SX rfl rfl (x_len TK rfl rfl rfl) (SA TK rfl (SA TK rfl (SB TK rfl (fun q5 hq5 => ?_)))))))))
   cases q5
   ·replace hm := iteN_F hq5 hm
    refine SA TK rfl (SA TK rfl (SX rfl rfl (x_len TK rfl rfl rfl) (SA TK rfl (SA TK rfl (SX rfl rfl (x_len TK rfl rfl rfl) (SA TK rfl (SA TK rfl (TN (WT ?_)))))))))
    exact ⟨_, [0, 1], (SJ hm), rfl, k0, rfl⟩
   ·replace hm := iteN_T hq5 hm
    iterate 8 (refine SA TK rfl ?_)
    refine TN (WT ?_)
    exact ⟨_, [0, 1], (SJ hm), rfl, k0, rfl⟩
  ·replace hm := iteN_T hq4 hm
   iterate 17 (refine SA TK rfl ?_)
   refine TN (WT ?_)
   exact ⟨_, [0, 1], (SJ hm), rfl, k0, rfl⟩
 ·refine WN [2, 3, 29] rfl rfl ?_
  refine TC _ rfl (fun h6 => ?_) (fun h6 => ?_)
  ·replace hm := JA h6 hm
   refine RS (SA TK rfl (TN (WN [4] rfl rfl (TR (WR ?_)))))
   obtain rfl := OJ hm
   exact EndsS.one _ rfl (.d _) (.refl _)
  ·replace hm := JB h6 hm
   refine TS (WT (WN [2, 3] rfl rfl ?_))
   refine w_joinS hm (fun _ => ([] : Fr)) (fun _ => ([] : List (Nat × Blk))) [] [3] rfl (fun z7 hm hz7 => ?_) (fun j hm => ?_)
   ·refine RS (SA TK rfl (SA TK rfl (SX rfl rfl (x_len TK rfl rfl rfl) (SA TK rfl (TN (WN [2, 3, 31, 32, 33] rfl rfl (TB (w_loop hm (fun x9 => ([(33, .d (.int .i64 x9))] : Fr)) (fun x9 => ([] : List (Nat × Blk))) [33] [2, 3, 31, 32] [0, 1] rfl k0 rfl rfl rfl rfl rfl (fun x9 z10 hm hz10 => (WN [2, 3, 31, 32, 33] rfl rfl ?_))))))))))
    refine RS (SA TK rfl (TN (WN [2, 3, 31, 32, 33, 34] rfl rfl (TQ ?_))))
    refine TC _ rfl (fun h11 => ?_) (fun h11 => ?_)
    ·replace hm := JT h11 hm
     refine TS (WT (WN [2, 3, 31, 32, 33] rfl rfl (TQ (TB (RS (SA TK rfl ?_))))))
     obtain ⟨e12, he12, hm⟩ := GV hm
     refine SX rfl rfl (x_ix TK rfl rfl rfl rfl he12) (SA TK rfl (s_al 2 rfl rfl zero47 rfl (SA TK rfl (SA TK rfl (TN (WN [2, 3, 5, 6, 31, 32, 33] rfl rfl (RS (SA TK rfl (SA TK rfl (SA TK rfl ?_))))))))))
     obtain ⟨e13, he13, hm⟩ := GV hm
     refine SX rfl rfl (x_ix TK rfl rfl rfl rfl he13) (SA TK rfl (SA TK rfl (SX rfl rfl (x_len TK rfl rfl rfl) (SA TK rfl (TN (WN [2, 3, 6, 7, 31, 32, 33] rfl rfl ?_))))))
     refine w_cut [(8, .d (.bool (((decide (e12.state = (3 : Int))) || (decide (e12.state = (4 : Int)))))))] [8] [2, 3, 6, 7, 31, 32, 33] rfl ?_ ?_
     ·refine TG (SA TK rfl (SA TK rfl (SA TK rfl (SB TK rfl (fun q14 hq14 => ?_)))))
      cases q14
      ·iterate 5 (refine SA TK rfl ?_)
       refine TN (WT ?_)
       exact ⟨[0, 1, 2], rfl, k0, st_eq (fr_cons (av_bool (by simp [hq14])) rfl) rfl⟩
      ·iterate 5 (refine SA TK rfl ?_)
       refine TN (WT ?_)
       exact ⟨[0, 1, 2], rfl, k0, st_eq (fr_cons (av_bool (by simp [hq14])) rfl) rfl⟩
     ·refine WN [2, 3, 6, 7, 8, 31, 32, 33] rfl rfl (TB ?_)
      refine w_cut [(53, .d (.bool (((decide (e12.state < (0 : Int))) || (decide ((4 : Int) < e12.state))))))] [53] [2, 3, 6, 7, 8, 31, 32, 33] rfl ?_ ?_
      ·refine TG (SA TK rfl (SA TK rfl (SA TK rfl (SB TK rfl (fun q15 hq15 => ?_)))))
       cases q15
       ·iterate 5 (refine SA TK rfl ?_)
        refine TN (WT ?_)
        exact ⟨[0, 1, 2], rfl, k0, st_eq (fr_cons (av_bool (by simp [hq15])) rfl) rfl⟩
       ·iterate 5 (refine SA TK rfl ?_)
        refine TN (WT ?_)
        exact ⟨[0, 1, 2], rfl, k0, st_eq (fr_cons (av_bool (by simp [hq15])) rfl) rfl⟩
      ·refine WN [2, 3, 6, 7, 8, 31, 32, 33, 53] rfl rfl ?_
       refine TC _ rfl (fun h16 => ?_) (fun h16 => ?_)
       ·replace hm := JA h16 hm
        refine RS (SA TK rfl (TN (WN [4] rfl rfl (TR (WB (WB (WR ?_)))))))
        obtain ⟨v17, hm, hz⟩ := II hm
        rw [hz10 _ hz] at hm
        refine WR (WB ?_)
        obtain ⟨v18, hm, hz⟩ := II hm
        rw [hz7 _ hz] at hm
        refine WR ?_
        obtain rfl := OJ hm
        exact EndsS.one _ rfl (.d _) (.refl _)
       ·replace hm := JB h16 hm
        refine w_cut [(62, .d (.bool (((!(((decide (e12.state = (3 : Int))) || (decide (e12.state = (4 : Int)))))) && ((!(decide (e12.rel = (0 : Int)))) || (!(decide (e12.timer = (0 : Int)))))))))] [62] [2, 3, 6, 7, 31, 32, 33] rfl ?_ ?_
        ·refine TG (SA TK rfl (SA TK rfl (SB TK rfl (fun q19 hq19 => ?_))))
         cases q19
         ·iterate 10 (refine SA TK rfl ?_)
          refine TN (WT ?_)
          exact ⟨[0, 1, 2], rfl, k0, st_eq (fr_cons (av_bool (by simp [hq19])) rfl) rfl⟩
         ·refine SA TK rfl (SA TK rfl (SA TK rfl (SB TK rfl (fun q20 hq20 => ?_))))
          cases q20
          ·iterate 6 (refine SA TK rfl ?_)
           refine TN (WT ?_)
           exact ⟨[0, 1, 2], rfl, k0, st_eq (fr_cons (av_bool (by simp [hq19, hq20])) rfl) rfl⟩
          ·iterate 6 (refine SA TK rfl ?_)
           refine TN (WT ?_)
           exact ⟨[0, 1, 2], rfl, k0, st_eq (fr_cons (av_bool (by simp [hq19, hq20])) rfl) rfl⟩
        ·refine WN [2, 3, 6, 7, 31, 32, 33, 62] rfl rfl ?_
         refine TC _ rfl (fun h21 => ?_) (fun h21 => ?_)
         ·replace hm := JA h21 hm
          refine RS (SA TK rfl (TN (WN [4] rfl rfl (TR (WB (WB (WR ?_)))))))
          obtain ⟨v22, hm, hz⟩ := II hm
          rw [hz10 _ hz] at hm
          refine WR (WB ?_)
          obtain ⟨v23, hm, hz⟩ := II hm
          rw [hz7 _ hz] at hm
          refine WR ?_
          obtain rfl := OJ hm
          exact EndsS.one _ rfl (.d _) (.refl _)
         ·replace hm := JB h21 hm
          refine w_cut [(75, .d (.bool (((decide (e12.rel < (0 : Int))) || ((decide ((e13.sections.length : Int) ≤ e12.rel)) || (decide (e12.timer < (0 : Int))))))))] [75] [2, 3, 6, 7, 31, 32, 33] rfl ?_ ?_
          ·refine TG (SA TK rfl (SA TK rfl (SA TK rfl (SB TK rfl (fun q24 hq24 => ?_)))))
           cases q24
           ·iterate 5 (refine SA TK rfl ?_)
            refine SB TK rfl (fun q25 hq25 => ?_)
            cases q25
            ·iterate 5 (refine SA TK rfl ?_)
             refine TN (WT ?_)
             exact ⟨[0, 1, 2], rfl, k0, st_eq (fr_cons (av_bool (by simp [hq24, hq25])) rfl) rfl⟩
            ·iterate 5 (refine SA TK rfl ?_)
             refine TN (WT ?_)
             exact ⟨[0, 1, 2], rfl, k0, st_eq (fr_cons (av_bool (by simp [hq24, hq25])) rfl) rfl⟩
           ·iterate 11 (refine SA TK rfl ?_)
            refine TN (WT ?_)
            exact ⟨[0, 1, 2], rfl, k0, st_eq (fr_cons (av_bool (by simp [hq24])) rfl) rfl⟩
          ·refine WN [2, 3, 6, 7, 31, 32, 33, 75] rfl rfl ?_
           refine TC _ rfl (fun h26 => ?_) (fun h26 => ?_)
           ·replace hm := JA h26 hm
            refine RS (SA TK rfl (TN (WN [4] rfl rfl (TR (WB (WB (WR ?_)))))))
            obtain ⟨v27, hm, hz⟩ := II hm
            rw [hz10 _ hz] at hm
            refine WR (WB ?_)
            obtain ⟨v28, hm, hz⟩ := II hm
            rw [hz7 _ hz] at hm
            refine WR ?_
            obtain rfl := OJ hm
            exact EndsS.one _ rfl (.d _) (.refl _)
           ·replace hm := JB h26 hm
            refine w_joinM hm (fun x29 => ([(90, .d (.bool (x29)))] : Fr)) (fun x29 => ([] : List (Nat × Blk))) [90] [2, 3, 6, 31, 32, 33] rfl (fun z30 hm => ?_) (fun x29 hm => ?_)
            ·refine TG (SA TK rfl (SA TK rfl (SA TK rfl (SB TK rfl (fun q31 hq31 => ?_)))))
             cases q31
             ·replace hm := JF hq31 hm
              iterate 17 (refine SA TK rfl ?_)
              refine TN (WT ?_)
              exact ⟨_, [0, 1, 2], (SJ hm), rfl, k0, rfl⟩
             ·replace hm := JT hq31 hm
              iterate 4 (refine SA TK rfl ?_)
              refine SB TK rfl (fun q32 hq32 => ?_)
              cases q32
              ·replace hm := JF hq32 hm
               iterate 12 (refine SA TK rfl ?_)
               refine TN (WT ?_)
               exact ⟨_, [0, 1, 2], (SJ hm), rfl, k0, rfl⟩
              ·replace hm := JT hq32 hm
               refine SA TK rfl (SA TK rfl (SA TK rfl ?_))
               obtain ⟨g33, hm⟩ := GI hm
               refine SX rfl rfl (x_ar rfl rfl rfl rfl g33) (SA TK rfl (SB TK rfl (fun q34 hq34 => ?_)))
               cases q34
               ·replace hm := iteN_F hq34 hm
                iterate 6 (refine SA TK rfl ?_)
                refine TN (WT ?_)
                exact ⟨_, [0, 1, 2], (SJ hm), rfl, k0, rfl⟩
               ·replace hm := iteN_T hq34 hm
                iterate 6 (refine SA TK rfl ?_)
                refine TN (WT ?_)
                exact ⟨_, [0, 1, 2], (SJ hm), rfl, k0, rfl⟩
            ·refine WN [2, 3, 6, 31, 32, 33, 90] rfl rfl ?_
             refine TC _ rfl (fun h35 => ?_) (fun h35 => ?_)
             ·replace hm := JA h35 hm
              refine RS (SA TK rfl (TN (WN [4] rfl rfl (TR (WB (WB (WR ?_)))))))
              obtain ⟨v36, hm, hz⟩ := II hm
              rw [hz10 _ hz] at hm
              refine WR (WB ?_)
              obtain ⟨v37, hm, hz⟩ := II hm
              rw [hz7 _ hz] at hm
              refine WR ?_
              obtain rfl := OJ hm
              exact EndsS.one _ rfl (.d _) (.refl _)
             ·replace hm := JB h35 hm
              refine w_cut [(111, .d (.bool (((decide (e12.state = (4 : Int))) && (decide ((12 : Int) ≤ e12.timer))))))] [111] [2, 3, 31, 32, 33] rfl ?_ ?_
              ·refine TG (SA TK rfl (SA TK rfl (SA TK rfl (SB TK rfl (fun q38 hq38 => ?_)))))
               cases q38
               ·iterate 5 (refine SA TK rfl ?_)
                refine TN (WT ?_)
                exact ⟨[0, 1, 2], rfl, k0, st_eq (fr_cons (av_bool (by simp [hq38])) rfl) rfl⟩
               ·iterate 5 (refine SA TK rfl ?_)
                refine TN (WT ?_)
                exact ⟨[0, 1, 2], rfl, k0, st_eq (fr_cons (av_bool (by simp [hq38])) rfl) rfl⟩
              ·refine WN [2, 3, 31, 32, 33, 111] rfl rfl ?_
               refine TC _ rfl (fun h39 => ?_) (fun h39 => ?_)
               ·replace hm := JA h39 hm
                refine RS (SA TK rfl (TN (WN [4] rfl rfl (TR (WB (WB (WR ?_)))))))
                obtain ⟨v40, hm, hz⟩ := II hm
                rw [hz10 _ hz] at hm
                refine WR (WB ?_)
                obtain ⟨v41, hm, hz⟩ := II hm
                rw [hz7 _ hz] at hm
                refine WR ?_
                obtain rfl := OJ hm
                exact EndsS.one _ rfl (.d _) (.refl _)
               ·replace hm := JB h39 hm
                refine TS (WK (WK (WT (WN [2, 3, 31, 32, 33] rfl rfl (TG ?_)))))
                obtain ⟨g42, hm⟩ := GI hm
                refine SX rfl rfl (x_ar rfl rfl rfl rfl g42) (SA TK rfl (TN (WT ?_)))
                exact ⟨_, [0, 1], (SJ hm), rfl, k0, rfl⟩
    ·replace hm := JF h11 hm
     refine twp_exit (WX ?_)
     obtain ⟨v43, hm, hz⟩ := II hm
     rw [hz10 _ hz] at hm
     refine WX (WH (WT ?_))
     exact ⟨_, [0, 1], (SJ hm), rfl, k0, rfl⟩
   ·refine WN [3] rfl rfl (RS (SA TK rfl (SA TK rfl ?_)))
    obtain ⟨r44, hr44, hm⟩ := BI hm
    refine SX rfl rfl (RN rfl rfl (SC (.d _) (SC (.d _) SN)) (slices_ContainsFunc_int_c (fun _ r h => ⟨102, _, rfl, (progress_fits_c1_c h).retD⟩) hr44)) (SA TK rfl (SA TK rfl (TN (WN [4] rfl rfl (TR ?_)))))
    obtain rfl := OJ hm
    exact EndsS.one _ rfl (.d _) (.refl _)

theorem locks_Path_c {p0 : Table} {p1 : Inter} {p2 : Int} {r : (List Int)} (hm : locks_Path p0 p1 p2 = some r) : RetD Tryz.prog 103 [p0.enc, p1.enc, .int .i64 p2] (.sl 1 (r.map (D.int .i64))) := by
 refine .of (mv := fun _ => false) (ret_bodyS callB103 Tryz.func103 rfl Tryz.ntmps103 rfl rfl (fun wX gX => ?_))
 unfold locks_Path at hm
 refine WN [0, 1, 2] rfl rfl (RS (s_bx 0 rfl rfl rfl (s_bx 1 rfl rfl rfl (SA TK rfl (TN (WN [2, 3, 4] rfl rfl (TQ ?_)))))))
 refine w_joinM hm (fun x1 => ([(21, .d (.bool (x1)))] : Fr)) (fun x1 => ([] : List (Nat × Blk))) [21] [2, 3, 4] rfl (fun z2 hm => ?_) (fun x1 hm => ?_)
 ·refine TG (SA TK rfl (SA TK rfl (SB TK rfl (fun q3 hq3 => ?_))))
  cases q3
  ·replace hm := JF hq3 hm
   refine SA TK rfl (SA TK rfl (SA TK rfl (SX rfl rfl (x_len TK rfl rfl rfl) (SA TK rfl (SA TK rfl (SB TK rfl (fun q4 hq4 => ?_)))))))
   cases q4
   ·replace hm := JF hq4 hm
    refine SA TK rfl (SA TK rfl ?_)
    obtain ⟨r5, hr5, hm⟩ := BI hm
    refine SX rfl rfl (RN rfl rfl (SC (.d _) (SC (.d _) SN)) (locks_fits_c hr5)) (SA TK rfl (SA TK rfl (TN (WT ?_))))
    exact ⟨_, [0, 1], (SJ hm), rfl, k0, rfl⟩
   ·replace hm := JT hq4 hm
    iterate 5 (refine SA TK rfl ?_)
    refine TN (WT ?_)
    exact ⟨_, [0, 1], (SJ hm), rfl, k0, rfl⟩
  ·replace hm := JT hq3 hm
   iterate 12 (refine SA TK rfl ?_)
   refine TN (WT ?_)
   exact ⟨_, [0, 1], (SJ hm), rfl, k0, rfl⟩
 ·refine WN [2, 3, 4, 21] rfl rfl ?_
  refine TC _ rfl (fun h6 => ?_) (fun h6 => ?_)
  ·replace hm := JA h6 hm
   refine RS (SA TK rfl (TN (c_wk 6 [some 1] rfl (WN [6] rfl rfl (TR (WR ?_))))))
   obtain rfl := OJ hm
   exact EndsS.one _ rfl (.d _) (.refl _)
  ·replace hm := JB h6 hm
   refine TS (WT (WN [2, 3, 4] rfl rfl (twp_dseq follows  ?_)))
   iterate 3 (refine DA [0, 1] TK rfl ?_)
   obtain ⟨e7, he7, hm⟩ := GV hm
   refine DX [0, 1] rfl rfl (x_ix TK rfl rfl rfl rfl he7) ?_
   iterate 4 (refine DA [0, 1] TK rfl ?_)
   obtain ⟨e8, he8, hm⟩ := GV hm
   refine DX [0, 1] rfl rfl (x_ix TK rfl rfl rfl rfl he8) (DA [0, 1] TK rfl ?_)
   obtain ⟨r9, hr9, hm⟩ := BI hm
   refine DX [0, 1] rfl rfl (RD rfl rfl rfl (locks_path_c hr9)) ?_
   refine DT ?_ (by kernel_rfl)
   refine SA TK rfl (TN (WN [6] rfl rfl (TR ?_)))
   obtain rfl := OJ hm
   exact EndsS.one _ rfl (.d _) (.refl _)

theorem progress_Occupied_c {p0 : Inputs} {p1 : Int} {r : Bool} (hm : progress_Occupied p0 p1 = some r) : RetN Tryz.prog 104 [p0.enc, .int .i64 p1] (.bool (r)) := by
 refine .unit (ret_bodyS callB104 Tryz.func104 rfl Tryz.ntmps104 rfl rfl (fun wX gX => ?_)) rfl
 unfold progress_Occupied at hm
 refine WN [0, 1] rfl rfl (RS (s_bx 0 rfl rfl rfl (SA TK rfl (TN (WN [1, 2] rfl rfl ?_)))))
 refine w_joinM hm (fun x1 => ([(4, .d (.bool (x1)))] : Fr)) (fun x1 => ([] : List (Nat × Blk))) [4] [] rfl (fun z2 hm => ?_) (fun x1 hm => ?_)
 ·refine TG (SA TK rfl (SA TK rfl (SB TK rfl (fun q3 hq3 => ?_))))
  cases q3
  ·replace hm := JF hq3 hm
   refine SA TK rfl (SA TK rfl (SA TK rfl (SX rfl rfl (x_len TK rfl rfl rfl) (SA TK rfl (SA TK rfl (SB TK rfl (fun q4 hq4 => ?_)))))))
   cases q4
   ·replace hm := JF hq4 hm
    refine SA TK rfl (SA TK rfl (SA TK rfl ?_))
    obtain ⟨e5, he5, hm⟩ := GV hm
    refine SX rfl rfl (x_ix TK rfl rfl rfl rfl he5) (SA TK rfl (SA TK rfl (SA TK rfl (TN (WT ?_)))))
    exact ⟨_, [0], (SJ hm), rfl, k0, rfl⟩
   ·replace hm := JT hq4 hm
    iterate 7 (refine SA TK rfl ?_)
    refine TN (WT ?_)
    exact ⟨_, [0], (SJ hm), rfl, k0, rfl⟩
  ·replace hm := JT hq3 hm
   iterate 14 (refine SA TK rfl ?_)
   refine TN (WT ?_)
   exact ⟨_, [0], (SJ hm), rfl, k0, rfl⟩
 ·refine WN [4] rfl rfl (TR ?_)
  obtain rfl := OJ hm
  exact EndsS.one _ rfl (.d _) (.refl _)

theorem progress_Emptied_c {p0 : Table} {p1 : Inter} {p2 : Inputs} {p3 : Int} {r : Bool} (hm : progress_Emptied p0 p1 p2 p3 = some r) : RetN Tryz.prog 64 [p0.enc, p1.enc, p2.enc, .int .i64 p3] (.bool (r)) := by
 refine .unit (ret_bodyS callB64 Tryz.func64 rfl Tryz.ntmps64 rfl rfl (fun wX gX => ?_)) rfl
 unfold progress_Emptied at hm
 refine WN [0, 1, 2, 3] rfl rfl (RS (s_bx 0 rfl rfl rfl (s_bx 1 rfl rfl rfl (s_bx 2 rfl rfl rfl (SA TK rfl (TN (WN [3, 4, 5, 6] rfl rfl ?_)))))))
 refine w_joinS hm (fun _ => ([] : Fr)) (fun _ => ([] : List (Nat × Blk))) [] [] rfl (fun z1 hm hz1 => ?_) (fun j hm => ?_)
 ·refine RS (SA TK rfl (SA TK rfl (SA TK rfl ?_)))
  obtain ⟨r2, hr2, hm⟩ := BI hm
  refine SX rfl rfl (RD rfl rfl rfl (locks_Path_c hr2)) (SX rfl rfl (x_len TK rfl rfl rfl) (SA TK rfl (TN (WN [6, 14, 15, 16] rfl rfl (TB (w_loop hm (fun x4 => ([(16, .d (.int .i64 x4))] : Fr)) (fun x4 => ([] : List (Nat × Blk))) [16] [6, 14, 15] [0, 1, 2] rfl k0 rfl rfl rfl rfl rfl (fun x4 z5 hm hz5 => (WN [6, 14, 15, 16] rfl rfl (RS ?_)))))))))
  refine SA TK rfl (TN (WN [6, 14, 15, 16, 17] rfl rfl (TQ ?_)))
  refine TC _ rfl (fun h6 => ?_) (fun h6 => ?_)
  ·replace hm := JT h6 hm
   refine TS (WT (WN [6, 14, 15, 16] rfl rfl (TQ (TB (RS ?_)))))
   obtain ⟨e7, he7, hm⟩ := GV hm
   refine SX rfl rfl (x_ix TK rfl rfl rfl rfl he7) (SA TK rfl (SA TK rfl (TN (WN [6, 10, 14, 15, 16] rfl rfl (RS (SA TK rfl (SA TK rfl ?_)))))))
   obtain ⟨r8, hr8, hm⟩ := BI hm
   refine SX rfl rfl (RN rfl rfl (SC (.d _) (SC (.d _) SN)) (progress_Occupied_c hr8)) (TN (WN [6, 14, 15, 16, 22] rfl rfl ?_))
   refine TC _ rfl (fun h9 => ?_) (fun h9 => ?_)
   ·replace hm := JA h9 hm
    refine RS (SA TK rfl (TN (WN [8] rfl rfl (TR (WB (WR ?_))))))
    obtain ⟨v10, hm, hz⟩ := II hm
    rw [hz5 _ hz] at hm
    refine WR (WB ?_)
    obtain ⟨v11, hm, hz⟩ := II hm
    rw [hz1 _ hz] at hm
    refine WR ?_
    obtain rfl := OJ hm
    exact EndsS.one _ rfl (.d _) (.refl _)
   ·replace hm := JB h9 hm
    refine TS (WK (WT (WN [6, 14, 15, 16] rfl rfl (TG ?_))))
    obtain ⟨g12, hm⟩ := GI hm
    refine SX rfl rfl (x_ar rfl rfl rfl rfl g12) (SA TK rfl (TN (WT ?_)))
    exact ⟨_, [0, 1, 2], (SJ hm), rfl, k0, rfl⟩
  ·replace hm := JF h6 hm
   refine twp_exit (WX ?_)
   obtain ⟨v13, hm, hz⟩ := II hm
   rw [hz5 _ hz] at hm
   refine WX (WH (WT ?_))
   exact ⟨_, [0, 1, 2], (SJ hm), rfl, k0, rfl⟩
 ·refine WN [] rfl rfl (RS (SA TK rfl (TN (WN [8] rfl rfl (TR ?_)))))
  obtain rfl := OJ hm
  exact EndsS.one _ rfl (.d _) (.refl _)

theorem progress_proved_c {p0 : Table} {p1 : Inputs} {p2 : Route} {r : Bool} (hm : progress_proved p0 p1 p2 = some r) : RetN Tryz.prog 65 [p0.enc, p1.enc, p2.enc] (.bool (r)) := by
 refine .unit (ret_bodyS callB65 Tryz.func65 rfl Tryz.ntmps65 rfl rfl (fun wX gX => ?_)) rfl
 unfold progress_proved at hm
 refine WN [0, 1, 2] rfl rfl (RS (s_bx 0 rfl rfl rfl (s_bx 1 rfl rfl rfl (s_bx 2 rfl rfl rfl (SA TK rfl (TN (WN [3, 4, 5] rfl rfl ?_)))))))
 refine w_joinS hm (fun _ => ([] : Fr)) (fun _ => ([] : List (Nat × Blk))) [] [3, 4, 5] rfl (fun z1 hm hz1 => ?_) (fun j hm => ?_)
 ·refine RS ?_
  iterate 4 (refine SA TK rfl ?_)
  refine SX rfl rfl (x_lit [.tmp 13, .tmp 15] TK rfl rfl zero23 rfl rfl rfl rfl rfl) ?_
  obtain ⟨r2, hr2, hm⟩ := BI hm
  refine SX rfl rfl (RN rfl rfl (SC (.d _) SN) (slices_Concat_int_c hr2)) (SX rfl rfl (x_len TK rfl rfl rfl) (SA TK rfl (TN (WN [3, 4, 5, 17, 18, 19] rfl rfl (TB (w_loop hm (fun x4 => ([(19, .d (.int .i64 x4))] : Fr)) (fun x4 => ([] : List (Nat × Blk))) [19] [3, 4, 5, 17, 18] [0, 1, 2] rfl k0 rfl rfl rfl rfl rfl (fun x4 z5 hm hz5 => (WN [3, 4, 5, 17, 18, 19] rfl rfl (RS ?_)))))))))
  refine SA TK rfl (TN (WN [3, 4, 5, 17, 18, 19, 20] rfl rfl (TQ ?_)))
  refine TC _ rfl (fun h6 => ?_) (fun h6 => ?_)
  ·replace hm := JT h6 hm
   refine TS (WT (WN [3, 4, 5, 17, 18, 19] rfl rfl (TQ (TB (RS ?_)))))
   obtain ⟨e7, he7, hm⟩ := GV hm
   refine SX rfl rfl (x_ix TK rfl rfl rfl rfl he7) (SA TK rfl (SA TK rfl (TN (WN [3, 4, 5, 8, 17, 18, 19] rfl rfl (RS (SA TK rfl (SA TK rfl ?_)))))))
   obtain ⟨r8, hr8, hm⟩ := BI hm
   refine SX rfl rfl (RN rfl rfl (SC (.d _) (SC (.d _) SN)) (progress_Occupied_c hr8)) (TN (WN [3, 4, 5, 17, 18, 19, 25] rfl rfl ?_))
   refine TC _ rfl (fun h9 => ?_) (fun h9 => ?_)
   ·replace hm := JA h9 hm
    refine RS (SA TK rfl (TN (WN [6] rfl rfl (TR (WB (WR ?_))))))
    obtain ⟨v10, hm, hz⟩ := II hm
    rw [hz5 _ hz] at hm
    refine WR (WB ?_)
    obtain ⟨v11, hm, hz⟩ := II hm
    rw [hz1 _ hz] at hm
    refine WR ?_
    obtain rfl := OJ hm
    exact EndsS.one _ rfl (.d _) (.refl _)
   ·replace hm := JB h9 hm
    refine TS (WK (WT (WN [3, 4, 5, 17, 18, 19] rfl rfl (TG ?_))))
    obtain ⟨g12, hm⟩ := GI hm
    refine SX rfl rfl (x_ar rfl rfl rfl rfl g12) (SA TK rfl (TN (WT ?_)))
    exact ⟨_, [0, 1, 2], (SJ hm), rfl, k0, rfl⟩
  ·replace hm := JF h6 hm
   refine twp_exit (WX ?_)
   obtain ⟨v13, hm, hz⟩ := II hm
   rw [hz5 _ hz] at hm
   refine WX (WH (WT ?_))
   exact ⟨_, [0, 1, 2], (SJ hm), rfl, k0, rfl⟩
 ·refine WN [3, 4, 5] rfl rfl ?_
  refine w_joinS hm (fun _ => ([] : Fr)) (fun _ => ([] : List (Nat × Blk))) [] [] rfl (fun z14 hm hz14 => ?_) (fun j hm => ?_)
  ·refine RS (SA TK rfl ?_)
   obtain ⟨r15, hr15, hm⟩ := BI hm
   refine SX rfl rfl (RD rfl rfl rfl (table_Settings_c hr15)) (SX rfl rfl (x_len TK rfl rfl rfl) (SA TK rfl (TN (WN [3, 4, 28, 29, 30] rfl rfl (TB (w_loop hm (fun x17 => ([(30, .d (.int .i64 x17))] : Fr)) (fun x17 => ([] : List (Nat × Blk))) [30] [3, 4, 28, 29] [0, 1, 2] rfl k0 rfl rfl rfl rfl rfl (fun x17 z18 hm hz18 => (WN [3, 4, 28, 29, 30] rfl rfl (RS ?_)))))))))
   refine SA TK rfl (TN (WN [3, 4, 28, 29, 30, 31] rfl rfl (TQ ?_)))
   refine TC _ rfl (fun h19 => ?_) (fun h19 => ?_)
   ·replace hm := JT h19 hm
    refine TS (WT (WN [3, 4, 28, 29, 30] rfl rfl (TQ (TB (RS ?_)))))
    obtain ⟨e20, he20, hm⟩ := GV hm
    refine SX rfl rfl (x_ix TK rfl rfl rfl rfl he20) (SA TK rfl (s_al 3 rfl rfl zero73 rfl (SA TK rfl (TN (WN [3, 4, 10, 28, 29, 30] rfl rfl (RS (SA TK rfl (SA TK rfl (SA TK rfl ?_)))))))))
    obtain ⟨r21, hr21, hm⟩ := BI hm
    refine SX rfl rfl (RN rfl rfl (SC (.d _) (SC (.d _) SN)) (table_Index_c hr21)) (SA TK rfl (TN (WN [3, 4, 10, 11, 28, 29, 30] rfl rfl ?_)))
    refine w_joinM hm (fun x22 => ([(52, .d (.bool (x22)))] : Fr)) (fun x22 => ([] : List (Nat × Blk))) [52] [3, 4, 28, 29, 30] rfl (fun z23 hm => ?_) (fun x22 hm => ?_)
    ·refine twp_draw follows  ?_
     iterate 3 (refine DA [0, 1, 2, 3] TK rfl ?_)
     refine DX [0, 1, 2, 3] rfl rfl (x_len TK rfl rfl rfl) (DA [0, 1, 2, 3] TK rfl (d_b [0, 1, 2, 3] TK rfl (fun q24 hq24 => ?_)))
     cases q24
     ·replace hm := JF hq24 hm
      iterate 3 (refine DA [0, 1, 2, 3] TK rfl ?_)
      obtain ⟨e25, he25, hm⟩ := GV hm
      refine DX [0, 1, 2, 3] rfl rfl (x_ix TK rfl rfl rfl rfl he25) ?_
      iterate 5 (refine DA [0, 1, 2, 3] TK rfl ?_)
      refine DT ?_ (by kernel_rfl)
      refine TN (WT ?_)
      exact ⟨_, [0, 1, 2, 3], (SJ hm), rfl, k0, rfl⟩
     ·replace hm := JT hq24 hm
      iterate 9 (refine DA [0, 1, 2, 3] TK rfl ?_)
      refine DT ?_ (by kernel_rfl)
      refine TN (WT ?_)
      exact ⟨_, [0, 1, 2, 3], (SJ hm), rfl, k0, rfl⟩
    ·refine WN [3, 4, 28, 29, 30, 52] rfl rfl ?_
     refine TC _ rfl (fun h26 => ?_) (fun h26 => ?_)
     ·replace hm := JA h26 hm
      refine RS (SA TK rfl (TN (WN [6] rfl rfl (TR (WB (WR ?_))))))
      obtain ⟨v27, hm, hz⟩ := II hm
      rw [hz18 _ hz] at hm
      refine WR (WB ?_)
      obtain ⟨v28, hm, hz⟩ := II hm
      rw [hz14 _ hz] at hm
      refine WR ?_
      obtain rfl := OJ hm
      exact EndsS.one _ rfl (.d _) (.refl _)
     ·replace hm := JB h26 hm
      refine TS (WK (WT (WN [3, 4, 28, 29, 30] rfl rfl (TG ?_))))
      obtain ⟨g29, hm⟩ := GI hm
      refine SX rfl rfl (x_ar rfl rfl rfl rfl g29) (SA TK rfl (TN (WT ?_)))
      exact ⟨_, [0, 1, 2], (SJ hm), rfl, k0, rfl⟩
   ·replace hm := JF h19 hm
    refine twp_exit (WX ?_)
    obtain ⟨v30, hm, hz⟩ := II hm
    rw [hz18 _ hz] at hm
    refine WX (WH (WT ?_))
    exact ⟨_, [0, 1, 2], (SJ hm), rfl, k0, rfl⟩
  ·refine WN [] rfl rfl (RS (SA TK rfl (TN (WN [6] rfl rfl (TR ?_)))))
   obtain rfl := OJ hm
   exact EndsS.one _ rfl (.d _) (.refl _)

end Go.Proofs.YtdhicpmpefkojaaGreat

set_option maxHeartbeats 8000000
set_option linter.unusedSimpArgs false
set_option linter.unusedVariables false
set_option maxRecDepth 20000
namespace Go.Proofs.YtdhicpmpefkojaaGreat
open Go Go.TL

theorem progress_view_clear_c {p0 : View} {r : RouteState} (hm : progress_view_clear p0 = some r) : RetN Tryz.prog 66 [p0.enc] (r.enc) := by
 refine .unit (ret_bodyS callB66 Tryz.func66 rfl Tryz.ntmps66 rfl rfl (fun wX gX => ?_)) rfl
 unfold progress_view_clear at hm
 refine WN [0] rfl rfl (RS (s_bx 0 rfl rfl rfl (s_al 1 rfl rfl zero47 rfl (TN (WN [1, 2] rfl rfl (TQ (TB (twp_dseq follows  ?_))))))))
 iterate 5 (refine DA [0, 1] TK rfl ?_)
 obtain ⟨e1, he1, hm⟩ := GV hm
 refine DX [0, 1] rfl rfl (x_ix TK rfl rfl rfl rfl he1) (DA [0, 1] TK rfl ?_)
 obtain ⟨r2, hr2, hm⟩ := BI hm
 refine DX [0, 1] rfl rfl (RN rfl rfl (SC (.d _) (SC (.d _) SN)) (progress_Occupied_c hr2)) ?_
 refine DT ?_ (by kernel_rfl)
 refine SA TK rfl (TN (WN [1, 2, 3] rfl rfl ?_))
 refine TC _ rfl (fun h3 => ?_) (fun h3 => ?_)
 ·replace hm := JA h3 hm
  refine RS (SX rfl rfl (build_d rfl plc47 zero47 rfl rfl rfl rfl) (SA TK rfl (TN (WN [2] rfl rfl (TR (WB (WR ?_)))))))
  obtain rfl := OJ hm
  exact EndsS.cellR _ TK rfl rfl rfl rfl rfl (.d _)
 ·replace hm := JB h3 hm
  refine w_joinM hm (fun x4 => ([(13, .d (.bool (x4)))] : Fr)) (fun x4 => ([] : List (Nat × Blk))) [13] [1, 2] rfl (fun z5 hm => ?_) (fun x4 hm => ?_)
  ·refine TG (SA TK rfl (SA TK rfl (SB TK rfl (fun q6 hq6 => ?_))))
   cases q6
   ·replace hm := JB hq6 hm
    iterate 14 (refine SA TK rfl ?_)
    refine TN (WT ?_)
    exact ⟨_, [0, 1], (SJ hm), rfl, k0, rfl⟩
   ·replace hm := JA hq6 hm
    iterate 4 (refine SA TK rfl ?_)
    refine SB TK rfl (fun q7 hq7 => ?_)
    cases q7
    ·replace hm := JB hq7 hm
     iterate 9 (refine SA TK rfl ?_)
     refine TN (WT ?_)
     exact ⟨_, [0, 1], (SJ hm), rfl, k0, rfl⟩
    ·replace hm := JA hq7 hm
     iterate 5 (refine SA TK rfl ?_)
     obtain ⟨r8, hr8, hm⟩ := BI hm
     refine SX rfl rfl (RN rfl rfl (SC (.d _) (SC (.d _) SN)) (progress_Occupied_c hr8)) (SA TK rfl (SA TK rfl (SA TK rfl (TN (WT ?_)))))
     exact ⟨_, [0, 1], (SJ hm), rfl, k0, rfl⟩
  ·refine WN [1, 2, 13] rfl rfl ?_
   refine TC _ rfl (fun h9 => ?_) (fun h9 => ?_)
   ·replace hm := JA h9 hm
    refine RS (SX rfl rfl (build_d rfl plc47 zero47 rfl rfl rfl rfl) (SA TK rfl (TN (WN [2] rfl rfl (TR (WB (WR ?_)))))))
    obtain rfl := OJ hm
    exact EndsS.cellR _ TK rfl rfl rfl rfl rfl (.d _)
   ·replace hm := JB h9 hm
    refine w_joinM hm (fun x10 => ([(31, .d (.bool (x10)))] : Fr)) (fun x10 => ([] : List (Nat × Blk))) [31] [2] rfl (fun z11 hm => ?_) (fun x10 hm => ?_)
    ·refine TG (SA TK rfl (SA TK rfl (SB TK rfl (fun q12 hq12 => ?_))))
     cases q12
     ·replace hm := JB hq12 hm
      iterate 6 (refine SA TK rfl ?_)
      obtain ⟨r13, hr13, hm⟩ := BI hm
      refine SX rfl rfl (RN rfl rfl (SC (.d _) (SC (.d _) (SC (.d _) SN))) (progress_proved_c hr13)) (SA TK rfl (SA TK rfl (SA TK rfl (TN (WT ?_)))))
      exact ⟨_, [0, 1], (SJ hm), rfl, k0, rfl⟩
     ·replace hm := JA hq12 hm
      iterate 10 (refine SA TK rfl ?_)
      refine TN (WT ?_)
      exact ⟨_, [0, 1], (SJ hm), rfl, k0, rfl⟩
    ·refine WN [2, 31] rfl rfl ?_
     refine TC _ rfl (fun h14 => ?_) (fun h14 => ?_)
     ·replace hm := JA h14 hm
      refine RS (SX rfl rfl (build_d rfl plc47 zero47 rfl rfl rfl rfl) (SA TK rfl (TN (WN [2] rfl rfl (TR (WB (WR ?_)))))))
      obtain rfl := OJ hm
      exact EndsS.cellR _ TK rfl rfl rfl rfl rfl (.d _)
     ·replace hm := JB h14 hm
      refine TS (WK (WT (WN [2] rfl rfl (RS (SX rfl rfl (build_d rfl plc47 zero47 rfl rfl rfl rfl) (SA TK rfl (TN (WN [2] rfl rfl ?_))))))))
      refine TR ?_
      obtain rfl := OJ hm
      exact EndsS.cellR _ TK rfl rfl rfl rfl rfl (.d _)

theorem progress_view_used_c {p0 : View} {r : RouteState} (hm : progress_view_used p0 = some r) : RetN Tryz.prog 67 [p0.enc] (r.enc) := by
 refine .unit (ret_bodyS callB67 Tryz.func67 rfl Tryz.ntmps67 rfl rfl (fun wX gX => ?_)) rfl
 unfold progress_view_used at hm
 refine WN [0] rfl rfl (RS (s_bx 0 rfl rfl rfl (s_al 1 rfl rfl zero47 rfl (TN (WN [1, 2] rfl rfl (twp_dseq follows  ?_))))))
 iterate 6 (refine DA [0, 1] TK rfl ?_)
 refine DX [0, 1] rfl rfl (x_len TK rfl rfl rfl) ?_
 obtain ⟨g1, hm⟩ := GI hm
 refine DX [0, 1] rfl rfl (x_ar rfl rfl rfl rfl g1) (DA [0, 1] TK rfl ?_)
 refine DT ?_ (by kernel_rfl)
 refine SA TK rfl (TN (WN [1, 2, 3, 4] rfl rfl (RS (SA TK rfl (SX rfl rfl (build_d rfl plc47 zero47 rfl rfl rfl rfl) (s_al 2 rfl rfl zero47 rfl (SA TK rfl (TN ?_))))))))
 refine WN [1, 2, 3, 4, 5] rfl rfl (TQ (RS (SA TK rfl (SA TK rfl (TN (WN [1, 2, 3, 4, 5, 17] rfl rfl ?_))))))
 refine TC _ rfl (fun h2 => ?_) (fun h2 => ?_)
 ·replace hm := JA h2 hm
  refine RS (SA TK rfl (SA TK rfl (TN (WN [2] rfl rfl (TR (WR ?_))))))
  obtain rfl := OJ hm
  exact EndsS.cellR _ TK rfl rfl rfl rfl rfl (.d _)
 ·replace hm := JB h2 hm
  refine TS (WT (WN [1, 2, 3, 4, 5] rfl rfl (TQ ?_)))
  refine w_cut [(24, .d (.bool (((p0.cancelled) && (p0.emptied)))))] [24] [1, 2, 3, 4, 5] rfl ?_ ?_
  ·refine TG (SA TK rfl (SA TK rfl (SB TK rfl (fun q3 hq3 => ?_))))
   cases q3
   ·refine SA TK rfl (SA TK rfl (SA TK rfl (TN (WT ?_))))
    exact ⟨[0, 1, 2], rfl, k0, st_eq (fr_cons (av_bool (by simp [hq3])) rfl) rfl⟩
   ·refine SA TK rfl (SA TK rfl (SA TK rfl (TN (WT ?_))))
    exact ⟨[0, 1, 2], rfl, k0, st_eq (fr_cons (av_bool (by simp [hq3])) rfl) rfl⟩
  ·refine WN [1, 2, 3, 4, 5, 24] rfl rfl ?_
   refine TC _ rfl (fun h4 => ?_) (fun h4 => ?_)
   ·replace hm := JA h4 hm
    refine RS (SA TK rfl (SX rfl rfl (build_d rfl plc47 zero47 rfl rfl rfl rfl) (SA TK rfl (TN (WN [2] rfl rfl (TR (WR ?_)))))))
    obtain rfl := OJ hm
    exact EndsS.cellR _ TK rfl rfl rfl rfl rfl (.d _)
   ·replace hm := JB h4 hm
    refine TS (WT (WN [1, 2, 3, 4, 5] rfl rfl (TQ (twp_dseq follows  ?_))))
    iterate 6 (refine DA [0, 1, 2] TK rfl ?_)
    obtain ⟨e5, he5, hm⟩ := GV hm
    refine DX [0, 1, 2] rfl rfl (x_ix TK rfl rfl rfl rfl he5) (DA [0, 1, 2] TK rfl ?_)
    obtain ⟨r6, hr6, hm⟩ := BI hm
    refine DX [0, 1, 2] rfl rfl (RN rfl rfl (SC (.d _) (SC (.d _) SN)) (progress_Occupied_c hr6)) (DA [0, 1, 2] TK rfl ?_)
    refine DT ?_ (by kernel_rfl)
    refine TN (WN [1, 2, 3, 4, 5, 36] rfl rfl ?_)
    refine TC _ rfl (fun h7 => ?_) (fun h7 => ?_)
    ·replace hm := JA h7 hm
     refine TQ (RS (SA TK rfl (SA TK rfl (SA TK rfl (TN (WN [1, 2, 3, 5, 39] rfl rfl ?_))))))
     refine TC _ rfl (fun h8 => ?_) (fun h8 => ?_)
     ·replace hm := JT h8 hm
      refine RS (SX rfl rfl (build_d rfl plc47 zero47 rfl rfl rfl rfl) (SA TK rfl (TN (WN [2] rfl rfl (TR (WR (WR ?_)))))))
      obtain rfl := OJ hm
      exact EndsS.cellR _ TK rfl rfl rfl rfl rfl (.d _)
     ·replace hm := JF h8 hm
      refine TS (WT (WN [1, 2, 3, 5] rfl rfl (TQ ?_)))
      refine w_joinM hm (fun x9 => ([(54, .d (.bool (x9)))] : Fr)) (fun x9 => ([] : List (Nat × Blk))) [54] [2, 3, 5] rfl (fun z10 hm => ?_) (fun x9 hm => ?_)
      ·refine twp_draw follows  ?_
       iterate 2 (refine DA [0, 1, 2] TK rfl ?_)
       refine d_b [0, 1, 2] TK rfl (fun q11 hq11 => ?_)
       cases q11
       ·replace hm := JB hq11 hm
        iterate 6 (refine DA [0, 1, 2] TK rfl ?_)
        obtain ⟨g12, hm⟩ := GI hm
        refine DX [0, 1, 2] rfl rfl (x_ar rfl rfl rfl rfl g12) ?_
        obtain ⟨e13, he13, hm⟩ := GV hm
        refine DX [0, 1, 2] rfl rfl (x_ix TK rfl rfl rfl rfl he13) (DA [0, 1, 2] TK rfl ?_)
        obtain ⟨r14, hr14, hm⟩ := BI hm
        refine DX [0, 1, 2] rfl rfl (RN rfl rfl (SC (.d _) (SC (.d _) SN)) (progress_Occupied_c hr14)) (DA [0, 1, 2] TK rfl ?_)
        refine DT ?_ (by kernel_rfl)
        refine TN (WT ?_)
        exact ⟨_, [0, 1, 2], (SJ hm), rfl, k0, rfl⟩
       ·replace hm := JA hq11 hm
        iterate 11 (refine DA [0, 1, 2] TK rfl ?_)
        refine DT ?_ (by kernel_rfl)
        refine TN (WT ?_)
        exact ⟨_, [0, 1, 2], (SJ hm), rfl, k0, rfl⟩
      ·refine WN [2, 3, 5, 54] rfl rfl ?_
       refine TC _ rfl (fun h15 => ?_) (fun h15 => ?_)
       ·replace hm := JA h15 hm
        refine TG (SA TK rfl ?_)
        obtain ⟨g16, hm⟩ := GI hm
        refine SX rfl rfl (x_ar rfl rfl rfl rfl g16) (SA TK rfl (SA TK rfl (TN (WT (WN [2, 5] rfl rfl (RS (SA TK rfl (SA TK rfl (TN (WN [2] rfl rfl ?_))))))))))
        refine TR (WR ?_)
        obtain rfl := OJ hm
        exact EndsS.cellR _ TK rfl rfl rfl rfl rfl (.d _)
       ·replace hm := JB h15 hm
        refine TS (WT (WN [2, 5] rfl rfl (RS (SA TK rfl (SA TK rfl (TN (WN [2] rfl rfl (TR (WR ?_)))))))))
        obtain rfl := OJ hm
        exact EndsS.cellR _ TK rfl rfl rfl rfl rfl (.d _)
    ·replace hm := JB h7 hm
     refine TS (WT (WN [1, 2, 3, 4, 5] rfl rfl (TQ (RS (SA TK rfl (SA TK rfl (SA TK rfl (TN (WN [1, 2, 5, 61] rfl rfl ?_)))))))))
     refine TC _ rfl (fun h17 => ?_) (fun h17 => ?_)
     ·replace hm := JT h17 hm
      refine RS (SA TK rfl (SA TK rfl (TN (WN [2] rfl rfl (TR (WR ?_))))))
      obtain rfl := OJ hm
      exact EndsS.cellR _ TK rfl rfl rfl rfl rfl (.d _)
     ·replace hm := JF h17 hm
      refine TS (WT (WN [1, 2, 5] rfl rfl (TQ (RS (SA TK rfl (SA TK rfl (SA TK rfl ?_)))))))
      obtain ⟨g18, hm⟩ := GI hm
      refine SX rfl rfl (x_ar rfl rfl rfl rfl g18) (SA TK rfl (SA TK rfl (TN (WN [2, 5] rfl rfl (RS (SA TK rfl (SA TK rfl (SA TK rfl (TN (WN [2, 5, 70] rfl rfl ?_))))))))))
      refine TC _ rfl (fun h19 => ?_) (fun h19 => ?_)
      ·replace hm := JT h19 hm
       refine RS (SX rfl rfl (build_d rfl plc47 zero47 rfl rfl rfl rfl) (SA TK rfl (TN (WN [2] rfl rfl (TR (WR ?_))))))
       obtain rfl := OJ hm
       exact EndsS.cellR _ TK rfl rfl rfl rfl rfl (.d _)
      ·replace hm := JF h19 hm
       refine TS (WT (WN [2, 5] rfl rfl (RS (SA TK rfl (SA TK rfl (TN (WN [2] rfl rfl (TR ?_))))))))
       obtain rfl := OJ hm
       exact EndsS.cellR _ TK rfl rfl rfl rfl rfl (.d _)

theorem progress_view_held_c {p0 : View} {r : RouteState} (hm : progress_view_held p0 = some r) : RetN Tryz.prog 68 [p0.enc] (r.enc) := by
 refine .unit (ret_bodyS callB68 Tryz.func68 rfl Tryz.ntmps68 rfl rfl (fun wX gX => ?_)) rfl
 unfold progress_view_held at hm
 refine WN [0] rfl rfl (RS (s_bx 0 rfl rfl rfl (s_al 1 rfl rfl zero47 rfl (TN (WN [1, 2] rfl rfl (RS ?_))))))
 iterate 4 (refine SA TK rfl ?_)
 refine TN (WN [1, 2, 3] rfl rfl (TQ (twp_dseq follows  ?_)))
 iterate 6 (refine DA [0, 1] TK rfl ?_)
 obtain ⟨e1, he1, hm⟩ := GV hm
 refine DX [0, 1] rfl rfl (x_ix TK rfl rfl rfl rfl he1) (DA [0, 1] TK rfl ?_)
 obtain ⟨r2, hr2, hm⟩ := BI hm
 refine DX [0, 1] rfl rfl (RN rfl rfl (SC (.d _) (SC (.d _) SN)) (progress_Occupied_c hr2)) ?_
 refine DT ?_ (by kernel_rfl)
 refine TN (WN [1, 2, 3, 16] rfl rfl ?_)
 refine TC _ rfl (fun h3 => ?_) (fun h3 => ?_)
 ·replace hm := JA h3 hm
  refine RS (SA TK rfl (SX rfl rfl (build_d rfl plc47 zero47 rfl rfl rfl rfl) (SA TK rfl (TN (WN [2] rfl rfl (TR (WR ?_)))))))
  obtain rfl := OJ hm
  exact EndsS.cellR _ TK rfl rfl rfl rfl rfl (.d _)
 ·replace hm := JB h3 hm
  refine TS (WT (WN [1, 2, 3] rfl rfl (RS (SA TK rfl (SX rfl rfl (build_d rfl plc47 zero47 rfl rfl rfl rfl) (s_al 2 rfl rfl zero47 rfl (SA TK rfl (TN ?_))))))))
  refine WN [1, 2, 4] rfl rfl (TQ ?_)
  refine w_cut [(27, .d (.bool (((p0.claimed) || (!(p0.emptied))))))] [27] [1, 2, 4] rfl ?_ ?_
  ·refine TG (SA TK rfl (SA TK rfl (SB TK rfl (fun q4 hq4 => ?_))))
   cases q4
   ·iterate 4 (refine SA TK rfl ?_)
    refine TN (WT ?_)
    exact ⟨[0, 1, 2], rfl, k0, st_eq (fr_cons (av_bool (by simp [hq4])) rfl) rfl⟩
   ·iterate 4 (refine SA TK rfl ?_)
    refine TN (WT ?_)
    exact ⟨[0, 1, 2], rfl, k0, st_eq (fr_cons (av_bool (by simp [hq4])) rfl) rfl⟩
  ·refine WN [1, 2, 4, 27] rfl rfl ?_
   refine TC _ rfl (fun h5 => ?_) (fun h5 => ?_)
   ·replace hm := JA h5 hm
    refine RS (SA TK rfl (SA TK rfl (TN (WN [2] rfl rfl (TR (WR ?_))))))
    obtain rfl := OJ hm
    exact EndsS.cellR _ TK rfl rfl rfl rfl rfl (.d _)
   ·replace hm := JB h5 hm
    refine TS (WT (WN [1, 2, 4] rfl rfl (TQ (RS (SA TK rfl (SA TK rfl (SA TK rfl ?_)))))))
    obtain ⟨g6, hm⟩ := GI hm
    refine SX rfl rfl (x_ar rfl rfl rfl rfl g6) (SA TK rfl (SA TK rfl (TN (WN [2, 4] rfl rfl (RS (SA TK rfl (SA TK rfl (SA TK rfl (TN (WN [2, 4, 36] rfl rfl ?_))))))))))
    refine TC _ rfl (fun h7 => ?_) (fun h7 => ?_)
    ·replace hm := JT h7 hm
     refine RS (SX rfl rfl (build_d rfl plc47 zero47 rfl rfl rfl rfl) (SA TK rfl (TN (WN [2] rfl rfl (TR (WR ?_))))))
     obtain rfl := OJ hm
     exact EndsS.cellR _ TK rfl rfl rfl rfl rfl (.d _)
    ·replace hm := JF h7 hm
     refine TS (WT (WN [2, 4] rfl rfl (RS (SA TK rfl (SA TK rfl (TN (WN [2] rfl rfl (TR ?_))))))))
     obtain rfl := OJ hm
     exact EndsS.cellR _ TK rfl rfl rfl rfl rfl (.d _)

theorem progress_Next_c {p0 : Table} {p1 : Inter} {p2 : Inputs} {p3 : Int} {r : RouteState} (hm : progress_Next p0 p1 p2 p3 = some r) : RetN Tryz.prog 31 [p0.enc, p1.enc, p2.enc, .int .i64 p3] (r.enc) := by
 refine .unit (ret_bodyS callB31 Tryz.func31 rfl Tryz.ntmps31 rfl rfl (fun wX gX => ?_)) rfl
 unfold progress_Next at hm
 refine WN [0, 1, 2, 3] rfl rfl (RS (s_bx 0 rfl rfl rfl (s_bx 1 rfl rfl rfl (s_bx 2 rfl rfl rfl (s_al 3 rfl rfl zero47 rfl (TN (WN [3, 4, 5, 6, 8] rfl rfl (TQ ?_))))))))
 refine w_joinM hm (fun x1 => ([(24, .d (.bool (x1)))] : Fr)) (fun x1 => ([] : List (Nat × Blk))) [24] [3, 4, 5, 6, 8] rfl (fun z2 hm => ?_) (fun x1 hm => ?_)
 ·refine TG (SA TK rfl (SA TK rfl (SB TK rfl (fun q3 hq3 => ?_))))
  cases q3
  ·replace hm := JF hq3 hm
   refine SA TK rfl (SA TK rfl (SA TK rfl (SX rfl rfl (x_len TK rfl rfl rfl) (SA TK rfl (SA TK rfl (SB TK rfl (fun q4 hq4 => ?_)))))))
   cases q4
   ·replace hm := JF hq4 hm
    refine SA TK rfl (SA TK rfl ?_)
    obtain ⟨r5, hr5, hm⟩ := BI hm
    refine SX rfl rfl (RN rfl rfl (SC (.d _) (SC (.d _) SN)) (progress_fits_c hr5)) (SA TK rfl (SA TK rfl (TN (WT ?_))))
    exact ⟨_, [0, 1, 2, 3], (SJ hm), rfl, k0, rfl⟩
   ·replace hm := JT hq4 hm
    iterate 5 (refine SA TK rfl ?_)
    refine TN (WT ?_)
    exact ⟨_, [0, 1, 2, 3], (SJ hm), rfl, k0, rfl⟩
  ·replace hm := JT hq3 hm
   iterate 12 (refine SA TK rfl ?_)
   refine TN (WT ?_)
   exact ⟨_, [0, 1, 2, 3], (SJ hm), rfl, k0, rfl⟩
 ·refine WN [3, 4, 5, 6, 8, 24] rfl rfl ?_
  refine TC _ rfl (fun h6 => ?_) (fun h6 => ?_)
  ·replace hm := JA h6 hm
   refine RS (SX rfl rfl (build_d rfl plc47 zero47 rfl rfl rfl rfl) (SA TK rfl (TN (WN [8] rfl rfl (TR (WR ?_))))))
   obtain rfl := OJ hm
   exact EndsS.cellR _ TK rfl rfl rfl rfl rfl (.d _)
  ·replace hm := JB h6 hm
   refine TS (WT (WN [3, 4, 5, 6, 8] rfl rfl (twp_hole ?_)))
   refine w_joinM hm (fun (c7, c8, c9, c10, c11, c12, c13, c14, c15, c16, c17, c18, c19, c20, c21, c22, c23, c24, c25, c26, c27) => ([(9, .mptr 4 0 0 0)] : Fr)) (fun (c7, c8, c9, c10, c11, c12, c13, c14, c15, c16, c17, c18, c19, c20, c21, c22, c23, c24, c25, c26, c27) => ([(4, .box 97 [.d (.sl 14 (p0.routes.map Route.enc)), .d (.sl 1 (p0.points.map (D.int .i64))), .d (.sl 1 (p0.homes.map (D.int .i64))), .d (.int .i64 p0.sections), .d (.int .i64 p0.signals), .d (.sl 1 (p2.occupied.map D.bool)), .d (.sl 1 (p2.detected.map (D.int .i64))), .d (.sl 1 (p2.closed.map D.bool)), .d (.sl 1 (p2.claimed.map D.bool)), .d (.sl 1 (p2.passed.map D.bool)), .d (.sl 1 (p2.calls.map (D.int .i64))), .d (.sl 1 (p2.cancels.map (D.int .i64))), .d (.str c7), .d (.int .i64 c8), .d (.int .i64 c9), .d (.sl 3 (c10.map Step.enc)), .d (.sl 2 (c11.map Setting.enc)), .d (.sl 1 (c12.map (D.int .i64))), .d (.int .i64 c13), .d (.int .i64 c14), .d (.sl 3 (c15.map Step.enc)), .d (.sl 2 (c16.map Setting.enc)), .d (.sl 1 (c17.map (D.int .i64))), .d (.sl 2 (c18.map Setting.enc)), .d (.sl 1 (c19.map (D.int .i64))), .d (.sl 2 (c20.map End.enc)), .d (.int .i64 c21), .d (.int .i64 c22), .d (.int .i64 c23), .d (.bool (c24)), .d (.bool (c25)), .d (.bool (c26)), .d (.bool (c27))])] : List (Nat × Blk))) [9] [4, 6, 8] rfl (fun z28 hm => ?_) (fun j hm => ?_)
   ·refine twp_hole (twp_draw follows  (DA [0] TK rfl (DA [2] TK rfl (DA [] TK rfl (DA [0] TK rfl (DA [] TK rfl ?_))))))
    obtain ⟨e29, he29, hm⟩ := GV hm
    refine DX [] rfl rfl (x_ix TK rfl rfl rfl rfl he29) ?_
    iterate 2 (refine DA [] TK rfl ?_)
    refine DA [1] TK rfl (DA [] TK rfl ?_)
    obtain ⟨e30, he30, hm⟩ := GV hm
    refine DX [] rfl rfl (x_ix TK rfl rfl rfl rfl he30) ?_
    iterate 3 (refine DA [] TK rfl ?_)
    refine DA [2] TK rfl (DX [] rfl rfl (x_len TK rfl rfl rfl) (DA [] TK rfl (d_b [] TK rfl (fun q31 hq31 => ?_))))
    cases q31
    ·replace hm := JF hq31 hm
     refine DA [] TK rfl (DA [2] TK rfl (DA [] TK rfl ?_))
     obtain ⟨e32, he32, hm⟩ := GV hm
     refine DX [] rfl rfl (x_ix TK rfl rfl rfl rfl he32) ?_
     iterate 4 (refine DA [] TK rfl ?_)
     refine DA [2] TK rfl (DX [] rfl rfl (x_len TK rfl rfl rfl) (DA [] TK rfl (d_b [] TK rfl (fun q33 hq33 => ?_))))
     cases q33
     ·replace hm := JF hq33 hm
      iterate 7 (refine DA [] TK rfl ?_)
      refine DA [2] TK rfl (DA [] TK rfl ?_)
      obtain ⟨r34, hr34, hm⟩ := BI hm
      refine DX [] rfl rfl (RN rfl rfl (SC (.d _) (SC (.d _) SN)) (slices_Contains_int_c hr34)) (DA [0] TK rfl (DA [1] TK rfl (DA [2] TK rfl (DA [] TK rfl ?_))))
      obtain ⟨r35, hr35, hm⟩ := BI hm
      refine DX [] rfl rfl (RN rfl rfl (SC (.d _) (SC (.d _) (SC (.d _) (SC (.d _) SN)))) (progress_Emptied_c hr35)) (DX [] rfl rfl (build_d rfl plc97 zero97 rfl rfl rfl rfl) (d_wr [5] _ (.mptr 5 0 0 0) rfl (onE_A rfl) rfl (w_alloc rfl rfl zero97 rfl rfl) ?_))
      refine DT ?_ (by kernel_rfl)
      refine SA TK rfl (TN (WT ?_))
      exact ⟨_, [0, 1, 2, 3, 5], (SJ hm), rfl, k0, rfl⟩
     ·replace hm := JT hq33 hm
      refine DA [] TK rfl (DA [2] TK rfl (DA [] TK rfl ?_))
      obtain ⟨e36, he36, hm⟩ := GV hm
      refine DX [] rfl rfl (x_ix TK rfl rfl rfl rfl he36) ?_
      iterate 3 (refine DA [] TK rfl ?_)
      refine DA [2] TK rfl (DA [] TK rfl ?_)
      obtain ⟨r37, hr37, hm⟩ := BI hm
      refine DX [] rfl rfl (RN rfl rfl (SC (.d _) (SC (.d _) SN)) (slices_Contains_int_c hr37)) (DA [0] TK rfl (DA [1] TK rfl (DA [2] TK rfl (DA [] TK rfl ?_))))
      obtain ⟨r38, hr38, hm⟩ := BI hm
      refine DX [] rfl rfl (RN rfl rfl (SC (.d _) (SC (.d _) (SC (.d _) (SC (.d _) SN)))) (progress_Emptied_c hr38)) (DX [] rfl rfl (build_d rfl plc97 zero97 rfl rfl rfl rfl) (d_wr [5] _ (.mptr 5 0 0 0) rfl (onE_A rfl) rfl (w_alloc rfl rfl zero97 rfl rfl) ?_))
      refine DT ?_ (by kernel_rfl)
      refine SA TK rfl (TN (WT ?_))
      exact ⟨_, [0, 1, 2, 3, 5], (SJ hm), rfl, k0, rfl⟩
    ·replace hm := JT hq31 hm
     iterate 8 (refine DA [] TK rfl ?_)
     refine DA [2] TK rfl (DX [] rfl rfl (x_len TK rfl rfl rfl) (DA [] TK rfl (d_b [] TK rfl (fun q39 hq39 => ?_))))
     cases q39
     ·replace hm := JF hq39 hm
      iterate 7 (refine DA [] TK rfl ?_)
      refine DA [2] TK rfl (DA [] TK rfl ?_)
      obtain ⟨r40, hr40, hm⟩ := BI hm
      refine DX [] rfl rfl (RN rfl rfl (SC (.d _) (SC (.d _) SN)) (slices_Contains_int_c hr40)) (DA [0] TK rfl (DA [1] TK rfl (DA [2] TK rfl (DA [] TK rfl ?_))))
      obtain ⟨r41, hr41, hm⟩ := BI hm
      refine DX [] rfl rfl (RN rfl rfl (SC (.d _) (SC (.d _) (SC (.d _) (SC (.d _) SN)))) (progress_Emptied_c hr41)) (DX [] rfl rfl (build_d rfl plc97 zero97 rfl rfl rfl rfl) (d_wr [5] _ (.mptr 5 0 0 0) rfl (onE_A rfl) rfl (w_alloc rfl rfl zero97 rfl rfl) ?_))
      refine DT ?_ (by kernel_rfl)
      refine SA TK rfl (TN (WT ?_))
      exact ⟨_, [0, 1, 2, 3, 5], (SJ hm), rfl, k0, rfl⟩
     ·replace hm := JT hq39 hm
      refine DA [] TK rfl (DA [2] TK rfl (DA [] TK rfl ?_))
      obtain ⟨e42, he42, hm⟩ := GV hm
      refine DX [] rfl rfl (x_ix TK rfl rfl rfl rfl he42) ?_
      iterate 3 (refine DA [] TK rfl ?_)
      refine DA [2] TK rfl (DA [] TK rfl ?_)
      obtain ⟨r43, hr43, hm⟩ := BI hm
      refine DX [] rfl rfl (RN rfl rfl (SC (.d _) (SC (.d _) SN)) (slices_Contains_int_c hr43)) (DA [0] TK rfl (DA [1] TK rfl (DA [2] TK rfl (DA [] TK rfl ?_))))
      obtain ⟨r44, hr44, hm⟩ := BI hm
      refine DX [] rfl rfl (RN rfl rfl (SC (.d _) (SC (.d _) (SC (.d _) (SC (.d _) SN)))) (progress_Emptied_c hr44)) (DX [] rfl rfl (build_d rfl plc97 zero97 rfl rfl rfl rfl) (d_wr [5] _ (.mptr 5 0 0 0) rfl (onE_A rfl) rfl (w_alloc rfl rfl zero97 rfl rfl) ?_))
      refine DT ?_ (by kernel_rfl)
      refine SA TK rfl (TN (WT ?_))
      exact ⟨_, [0, 1, 2, 3, 5], (SJ hm), rfl, k0, rfl⟩
   ·obtain ⟨c7, c8, c9, c10, c11, c12, c13, c14, c15, c16, c17, c18, c19, c20, c21, c22, c23, c24, c25, c26, c27⟩ := j
    refine WN [4, 6, 8, 9] rfl rfl (TQ (RS (SA TK rfl (SA TK rfl (SA TK rfl (TN (WN [4, 6, 8, 9, 74] rfl rfl (TB (TQ (TB ?_))))))))))
    refine TQ (TB ?_)
    refine w_joinS hm (fun _ => ([] : Fr)) (fun _ => ([] : List (Nat × Blk))) [] [8, 9] rfl (fun z45 hm hz45 => ?_) (fun j hm => ?_)
    ·refine TB (TQ (TB (TQ (TQ (RS (SA TK rfl (SA TK rfl (TN (WN [4, 6, 8, 9, 74, 75] rfl rfl ?_)))))))))
     refine TC _ rfl (fun h46 => ?_) (fun h46 => ?_)
     ·replace hm := JT h46 hm
      refine twp_exit (WX (WX (WH (WT (WN [4, 6, 8, 9] rfl rfl (TQ (RS (SA TK rfl (SA TK rfl ?_)))))))))
      refine TN (WN [4, 6, 8, 9, 84] rfl rfl ?_)
      refine TC _ rfl (fun h47 => ?_) (fun h47 => ?_)
      ·replace hm := JA h47 hm
       refine RS (SX rfl rfl (build_d rfl plc47 zero47 rfl rfl rfl rfl) (SA TK rfl (TN (WN [8] rfl rfl (TR (WR (WB ?_)))))))
       obtain ⟨v48, hm, hz⟩ := II hm
       rw [hz45 _ hz] at hm
       refine WR (WB (WR (WB (WR (WB (WR ?_))))))
       obtain rfl := OJ hm
       exact EndsS.cellR _ TK rfl rfl rfl rfl rfl (.d _)
      ·replace hm := JB h47 hm
       refine TS (WT (WN [4, 6, 8, 9] rfl rfl (RS ?_)))
       iterate 4 (refine SA TK rfl ?_)
       obtain ⟨r49, hr49, hm⟩ := BI hm
       refine SX rfl rfl (RN rfl rfl (SC (.d _) (SC (.d _) (SC (.d _) SN))) (progress_proved_c hr49)) (SA TK rfl (TN (WN [8, 9, 91] rfl rfl ?_)))
       refine TC _ rfl (fun h50 => ?_) (fun h50 => ?_)
       ·replace hm := JA h50 hm
        refine RS (SA TK rfl (SA TK rfl (SA TK rfl (TN (WN [8] rfl rfl (TR (WB ?_)))))))
        obtain ⟨v51, hm, hz⟩ := II hm
        rw [hz45 _ hz] at hm
        refine WR (WB (WR (WB (WR (WB (WR ?_))))))
        obtain rfl := OJ hm
        exact EndsS.cellR _ TK rfl rfl rfl rfl rfl (.d _)
       ·replace hm := JB h50 hm
        refine TS (WK (WT ?_))
        exact ⟨_, [0, 1, 2, 3, 4], (SJ hm), rfl, k0, rfl⟩
     ·replace hm := JF h46 hm
      refine TS (WT (WN [8, 9, 74] rfl rfl (TQ (RS (SA TK rfl (SA TK rfl (TN (WN [8, 9, 74, 77] rfl rfl ?_))))))))
      refine TC _ rfl (fun h52 => ?_) (fun h52 => ?_)
      ·replace hm := JT h52 hm
       refine twp_exit (WX (WX (way_past rfl (WX (WH (WT ?_))))))
       exact ⟨_, [0, 1, 2, 3, 4], (SJ hm), rfl, k0, rfl⟩
      ·replace hm := JF h52 hm
       refine TS (WT (WN [8, 9, 74] rfl rfl (TQ (RS (SA TK rfl (SA TK rfl (TN (WN [8, 9, 74, 79] rfl rfl ?_))))))))
       refine TC _ rfl (fun h53 => ?_) (fun h53 => ?_)
       ·replace hm := JT h53 hm
        refine twp_exit (WX (WX (way_past rfl (WX (way_past rfl ?_)))))
        obtain ⟨v54, hm, hz⟩ := II hm
        rw [hz45 _ hz] at hm
        refine WX (WH (WT (WN [8, 9] rfl rfl (TQ (RS (SA TK rfl ?_))))))
        obtain ⟨r55, hr55, hm⟩ := BI hm
        refine SX rfl rfl (RN rfl rfl (SC (.d _) SN) (progress_view_used_c hr55)) (SA TK rfl (TN (WN [8] rfl rfl (TR (WR (WB (WR (WB ?_))))))))
        refine WR ?_
        obtain rfl := OJ hm
        exact EndsS.cellR _ TK rfl rfl rfl rfl rfl (.d _)
       ·replace hm := JF h53 hm
        refine TS (WT (WN [8, 9, 74] rfl rfl (RS (SA TK rfl (SA TK rfl (TN (WN [8, 9, 81] rfl rfl ?_)))))))
        refine TC _ rfl (fun h56 => ?_) (fun h56 => ?_)
        ·replace hm := JT h56 hm
         refine twp_exit (WX (way_past rfl (WX (way_past rfl ?_))))
         obtain ⟨v57, hm, hz⟩ := II hm
         rw [hz45 _ hz] at hm
         refine WX (way_past rfl (WX (WH (WT (WN [8, 9] rfl rfl (TQ (RS (SA TK rfl ?_))))))))
         obtain ⟨r58, hr58, hm⟩ := BI hm
         refine SX rfl rfl (RN rfl rfl (SC (.d _) SN) (progress_view_held_c hr58)) (SA TK rfl (TN (WN [8] rfl rfl (TR (WR (WB (WR ?_)))))))
         obtain rfl := OJ hm
         exact EndsS.cellR _ TK rfl rfl rfl rfl rfl (.d _)
        ·replace hm := JF h56 hm
         refine TS (WT (WN [8] rfl rfl (twp_exit (way_past rfl (WX (way_past rfl ?_))))))
         obtain ⟨v59, hm, hz⟩ := II hm
         rw [hz45 _ hz] at hm
         refine WX (way_past rfl (WX (way_past rfl (WX (WH (WT (WN [8] rfl rfl (RS ?_))))))))
         refine SX rfl rfl (build_d rfl plc47 zero47 rfl rfl rfl rfl) (SA TK rfl (TN (WN [8] rfl rfl (TR ?_))))
         obtain rfl := OJ hm
         exact EndsS.cellR _ TK rfl rfl rfl rfl rfl (.d _)
    ·refine WN [8, 9] rfl rfl (TQ (RS (SA TK rfl ?_)))
     obtain ⟨r60, hr60, hm⟩ := BI hm
     refine SX rfl rfl (RN rfl rfl (SC (.d _) SN) (progress_view_clear_c hr60)) (SA TK rfl (TN (WN [8] rfl rfl (TR (WR (WB (WR (WB ?_))))))))
     refine WR (WB (WR ?_))
     obtain rfl := OJ hm
     exact EndsS.cellR _ TK rfl rfl rfl rfl rfl (.d _)

theorem locks_restrictive_c {p0 : (List Bool)} {p1 : Int} {r : Bool} (hm : locks_restrictive p0 p1 = some r) : RetN Tryz.prog 105 [.sl 1 (p0.map D.bool), .int .i64 p1] (.bool (r)) := by
 refine .unit (ret_bodyS callB105 Tryz.func105 rfl Tryz.ntmps105 rfl rfl (fun wX gX => ?_)) rfl
 unfold locks_restrictive at hm
 refine WN [0, 1] rfl rfl (RS (SA TK rfl (TN (WN [0, 1] rfl rfl ?_))))
 refine w_joinM hm (fun x1 => ([(4, .d (.bool (x1)))] : Fr)) (fun x1 => ([] : List (Nat × Blk))) [4] [] rfl (fun z2 hm => ?_) (fun x1 hm => ?_)
 ·refine TG (SA TK rfl (SA TK rfl (SB TK rfl (fun q3 hq3 => ?_))))
  cases q3
  ·replace hm := JF hq3 hm
   refine SA TK rfl (SA TK rfl (SX rfl rfl (x_len TK rfl rfl rfl) (SA TK rfl (SA TK rfl (SB TK rfl (fun q4 hq4 => ?_))))))
   cases q4
   ·replace hm := JF hq4 hm
    refine SA TK rfl (SA TK rfl ?_)
    obtain ⟨e5, he5, hm⟩ := GV hm
    refine SX rfl rfl (x_ix TK rfl rfl rfl rfl he5) (SA TK rfl (SA TK rfl (SA TK rfl (TN (WT ?_)))))
    exact ⟨_, [], (SJ hm), rfl, k0, rfl⟩
   ·replace hm := JT hq4 hm
    iterate 6 (refine SA TK rfl ?_)
    refine TN (WT ?_)
    exact ⟨_, [], (SJ hm), rfl, k0, rfl⟩
  ·replace hm := JT hq3 hm
   iterate 12 (refine SA TK rfl ?_)
   refine TN (WT ?_)
   exact ⟨_, [], (SJ hm), rfl, k0, rfl⟩
 ·refine WN [4] rfl rfl (TR ?_)
  obtain rfl := OJ hm
  exact EndsS.one _ rfl (.d _) (.refl _)

theorem locks_Free_c {p0 : Table} {p1 : Inter} {p2 : Inputs} {p3 : Int} {r : Int} (hm : locks_Free p0 p1 p2 p3 = some r) : RetN Tryz.prog 69 [p0.enc, p1.enc, p2.enc, .int .i64 p3] (.int .i64 r) := by
 refine .unit (ret_bodyS callB69 Tryz.func69 rfl Tryz.ntmps69 rfl rfl (fun wX gX => ?_)) rfl
 unfold locks_Free at hm
 refine WN [0, 1, 2, 3] rfl rfl (RS (s_bx 0 rfl rfl rfl (s_bx 1 rfl rfl rfl (s_bx 2 rfl rfl rfl (SA TK rfl (TN (WN [3, 4, 5, 6] rfl rfl (TQ ?_))))))))
 refine w_joinM hm (fun x1 => ([(35, .d (.bool (x1)))] : Fr)) (fun x1 => ([] : List (Nat × Blk))) [35] [3, 4, 5, 6] rfl (fun z2 hm => ?_) (fun x1 hm => ?_)
 ·refine TG (SA TK rfl (SA TK rfl ?_))
  obtain ⟨r3, hr3, hm⟩ := BI hm
  refine SX rfl rfl (RN rfl rfl (SC (.d _) (SC (.d _) SN)) (locks_Sound_c hr3)) (SA TK rfl (SB TK rfl (fun q4 hq4 => ?_)))
  cases q4
  ·replace hm := JB hq4 hm
   refine SA TK rfl (SA TK rfl (SA TK rfl (SB TK rfl (fun q5 hq5 => ?_))))
   cases q5
   ·replace hm := JF hq5 hm
    refine SA TK rfl (SA TK rfl (SA TK rfl (SX rfl rfl (x_len TK rfl rfl rfl) (SA TK rfl (SA TK rfl (TN (WT ?_)))))))
    exact ⟨_, [0, 1, 2], (SJ hm), rfl, k0, rfl⟩
   ·replace hm := JT hq5 hm
    iterate 6 (refine SA TK rfl ?_)
    refine TN (WT ?_)
    exact ⟨_, [0, 1, 2], (SJ hm), rfl, k0, rfl⟩
  ·replace hm := JA hq4 hm
   iterate 10 (refine SA TK rfl ?_)
   refine TN (WT ?_)
   exact ⟨_, [0, 1, 2], (SJ hm), rfl, k0, rfl⟩
 ·refine WN [3, 4, 5, 6, 35] rfl rfl ?_
  refine TC _ rfl (fun h6 => ?_) (fun h6 => ?_)
  ·replace hm := JA h6 hm
   refine RS (SA TK rfl (TN (WN [8] rfl rfl (TR (WR ?_)))))
   obtain rfl := OJ hm
   exact EndsS.one _ rfl (.d _) (.refl _)
  ·replace hm := JB h6 hm
   refine TS (WT (WN [3, 4, 5, 6] rfl rfl (TQ (RS (SA TK rfl (SA TK rfl (SA TK rfl ?_)))))))
   obtain ⟨e7, he7, hm⟩ := GV hm
   refine SX rfl rfl (x_ix TK rfl rfl rfl rfl he7) (SA TK rfl (SA TK rfl (SA TK rfl (TN (WN [3, 4, 5, 6, 42] rfl rfl ?_)))))
   refine TC _ rfl (fun h8 => ?_) (fun h8 => ?_)
   ·replace hm := iteN_T h8 hm
    refine RS (SA TK rfl (TN (WN [8] rfl rfl (TR (WR ?_)))))
    obtain rfl := OJ hm
    exact EndsS.one _ rfl (.d _) (.refl _)
   ·replace hm := iteN_F h8 hm
    refine TS (WT (WN [3, 4, 5, 6] rfl rfl (RS (SA TK rfl (SA TK rfl (SA TK rfl ?_))))))
    obtain ⟨e9, he9, hm⟩ := GV hm
    refine SX rfl rfl (x_ix TK rfl rfl rfl rfl he9) (SA TK rfl (s_al 3 rfl rfl zero52 rfl (s_wkb 3 [none, none, none, some 3, some 2, some 1, none, none, some 3, some 2, some 1, some 2, some 1, some 2] rfl rfl (SA TK rfl (TN (WN [3, 4, 5, 6, 9] rfl rfl (RS (SA TK rfl ?_))))))))
    refine SX rfl rfl (build_d rfl plc47 zero47 rfl rfl rfl rfl) ?_
    obtain ⟨r10, hr10, hm⟩ := BI hm
    refine SX rfl rfl (RD rfl rfl rfl (locks_locked_c hr10)) (SA TK rfl (TN (WN [3, 4, 5, 6, 9, 10] rfl rfl ?_)))
    refine w_joinS hm (fun _ => ([] : Fr)) (fun _ => ([] : List (Nat × Blk))) [] [3, 4, 5, 6, 9, 10] rfl (fun z11 hm hz11 => ?_) (fun j hm => ?_)
    ·refine RS (SA TK rfl (SX rfl rfl (x_len TK rfl rfl rfl) (SA TK rfl (TN (WN [3, 4, 5, 6, 9, 10, 51, 52, 53] rfl rfl (TB (w_loop hm (fun x13 => ([(53, .d (.int .i64 x13))] : Fr)) (fun x13 => ([] : List (Nat × Blk))) [53] [3, 4, 5, 6, 9, 10, 51, 52] [0, 1, 2, 3] rfl k0 rfl rfl rfl rfl rfl (fun x13 z14 hm hz14 => (WN [3, 4, 5, 6, 9, 10, 51, 52, 53] rfl rfl ?_)))))))))
     refine RS (SA TK rfl (TN (WN [3, 4, 5, 6, 9, 10, 51, 52, 53, 54] rfl rfl (TQ ?_))))
     refine TC _ rfl (fun h15 => ?_) (fun h15 => ?_)
     ·replace hm := JT h15 hm
      refine TS (WT (WN [3, 4, 5, 6, 9, 10, 51, 52, 53] rfl rfl (TQ (TB (RS ?_)))))
      obtain ⟨e16, he16, hm⟩ := GV hm
      refine SX rfl rfl (x_ix TK rfl rfl rfl rfl he16) (SA TK rfl (s_al 4 rfl rfl zero117 rfl (SA TK rfl (TN (WN [3, 4, 5, 6, 9, 10, 12, 51, 52, 53] rfl rfl (RS (SA TK rfl (SA TK rfl ?_))))))))
      refine SX rfl rfl (index_arrC rfl asel117 rfl rfl (by decide) (by decide) rfl) ?_
      refine SA TK rfl ?_
      obtain ⟨r17, hr17, hm⟩ := BI hm
      refine SX rfl rfl (RN rfl rfl (SC (.d _) (SC (.d _) SN)) (locks_restrictive_c hr17)) (TN (WN [3, 4, 5, 6, 9, 10, 51, 52, 53, 61] rfl rfl ?_))
      refine TC _ rfl (fun h18 => ?_) (fun h18 => ?_)
      ·replace hm := JA h18 hm
       refine RS (SA TK rfl (TN (WN [8] rfl rfl (TR (WB (WR ?_))))))
       obtain ⟨v19, hm, hz⟩ := II hm
       rw [hz14 _ hz] at hm
       refine WR (WB ?_)
       obtain ⟨v20, hm, hz⟩ := II hm
       rw [hz11 _ hz] at hm
       refine WR ?_
       obtain rfl := OJ hm
       exact EndsS.one _ rfl (.d _) (.refl _)
      ·replace hm := JB h18 hm
       refine TS (WK (WT (WN [3, 4, 5, 6, 9, 10, 51, 52, 53] rfl rfl (TG ?_))))
       obtain ⟨g21, hm⟩ := GI hm
       refine SX rfl rfl (x_ar rfl rfl rfl rfl g21) (SA TK rfl (TN (WT ?_)))
       exact ⟨_, [0, 1, 2, 3], (SJ hm), rfl, k0, rfl⟩
     ·replace hm := JF h15 hm
      refine twp_exit (WX ?_)
      obtain ⟨v22, hm, hz⟩ := II hm
      rw [hz14 _ hz] at hm
      refine WX (WH (WT ?_))
      exact ⟨_, [0, 1, 2, 3], (SJ hm), rfl, k0, rfl⟩
    ·refine WN [3, 4, 5, 6, 9, 10] rfl rfl ?_
     refine w_joinS hm (fun _ => ([] : Fr)) (fun _ => ([] : List (Nat × Blk))) [] [3, 4, 5, 6, 9] rfl (fun z23 hm hz23 => ?_) (fun j hm => ?_)
     ·refine RS (SA TK rfl (SA TK rfl (SX rfl rfl (x_len TK rfl rfl rfl) (SA TK rfl (TN (WN [3, 4, 5, 6, 9, 10, 64, 65, 66] rfl rfl (TB (w_loop hm (fun x25 => ([(66, .d (.int .i64 x25))] : Fr)) (fun x25 => ([] : List (Nat × Blk))) [66] [3, 4, 5, 6, 9, 10, 64, 65] [0, 1, 2, 3] rfl k0 rfl rfl rfl rfl rfl (fun x25 z26 hm hz26 => (WN [3, 4, 5, 6, 9, 10, 64, 65, 66] rfl rfl ?_))))))))))
      refine RS (SA TK rfl (TN (WN [3, 4, 5, 6, 9, 10, 64, 65, 66, 67] rfl rfl (TQ ?_))))
      refine TC _ rfl (fun h27 => ?_) (fun h27 => ?_)
      ·replace hm := JT h27 hm
       refine TS (WT (WN [3, 4, 5, 6, 9, 10, 64, 65, 66] rfl rfl (TQ (TB (RS (SA TK rfl ?_))))))
       obtain ⟨e28, he28, hm⟩ := GV hm
       refine SX rfl rfl (x_ix TK rfl rfl rfl rfl he28) (SA TK rfl (s_al 4 rfl rfl zero52 rfl (s_wkb 4 [none, none, none, some 3, some 2, some 1, none, none, some 3, some 2, some 1, some 2, some 1, some 2] rfl rfl (SA TK rfl (SA TK rfl (TN (WN [3, 4, 5, 6, 9, 10, 13, 14, 64, 65, 66] rfl rfl ?_)))))))
       refine w_joinM hm (fun x29 => ([(86, .d (.bool (x29)))] : Fr)) (fun x29 => ([] : List (Nat × Blk))) [86] [3, 4, 5, 6, 9, 10, 64, 65, 66] rfl (fun z30 hm => ?_) (fun x29 hm => ?_)
       ·refine twp_draw follows  ?_
        iterate 3 (refine DA [0, 1, 2, 3, 4] TK rfl ?_)
        refine d_b [0, 1, 2, 3, 4] TK rfl (fun q31 hq31 => ?_)
        cases q31
        ·replace hm := iteN_F hq31 hm
         iterate 12 (refine DA [0, 1, 2, 3, 4] TK rfl ?_)
         refine DT ?_ (by kernel_rfl)
         refine TN (WT ?_)
         exact ⟨_, [0, 1, 2, 3, 4], (SJ hm), rfl, k0, rfl⟩
        ·replace hm := iteN_T hq31 hm
         iterate 7 (refine DA [0, 1, 2, 3, 4] TK rfl ?_)
         obtain ⟨e32, he32, hm⟩ := GV hm
         refine DX [0, 1, 2, 3, 4] rfl rfl (x_ix TK rfl rfl rfl rfl he32) (DA [0, 1, 2, 3, 4] TK rfl ?_)
         obtain ⟨r33, hr33, hm⟩ := BI hm
         refine DX [0, 1, 2, 3, 4] rfl rfl (RD rfl rfl rfl (locks_locked_c hr33)) ?_
         obtain ⟨r34, hr34, hm⟩ := BI hm
         refine DX [0, 1, 2, 3, 4] rfl rfl (RN rfl rfl (SC (.d _) (SC (.d _) (SC (.d _) (SC (.d _) SN)))) (locks_clash_c hr34)) (DA [0, 1, 2, 3, 4] TK rfl ?_)
         refine DT ?_ (by kernel_rfl)
         refine TN (WT ?_)
         exact ⟨_, [0, 1, 2, 3, 4], (SJ hm), rfl, k0, rfl⟩
       ·refine WN [3, 4, 5, 6, 9, 10, 64, 65, 66, 86] rfl rfl ?_
        refine TC _ rfl (fun h35 => ?_) (fun h35 => ?_)
        ·replace hm := JA h35 hm
         refine RS (SA TK rfl (TN (WN [8] rfl rfl (TR (WB (WR ?_))))))
         obtain ⟨v36, hm, hz⟩ := II hm
         rw [hz26 _ hz] at hm
         refine WR (WB ?_)
         obtain ⟨v37, hm, hz⟩ := II hm
         rw [hz23 _ hz] at hm
         refine WR ?_
         obtain rfl := OJ hm
         exact EndsS.one _ rfl (.d _) (.refl _)
        ·replace hm := JB h35 hm
         refine TS (WK (WT (WN [3, 4, 5, 6, 9, 10, 64, 65, 66] rfl rfl (TG ?_))))
         obtain ⟨g38, hm⟩ := GI hm
         refine SX rfl rfl (x_ar rfl rfl rfl rfl g38) (SA TK rfl (TN (WT ?_)))
         exact ⟨_, [0, 1, 2, 3], (SJ hm), rfl, k0, rfl⟩
      ·replace hm := JF h27 hm
       refine twp_exit (WX ?_)
       obtain ⟨v39, hm, hz⟩ := II hm
       rw [hz26 _ hz] at hm
       refine WX (WH (WT ?_))
       exact ⟨_, [0, 1, 2, 3], (SJ hm), rfl, k0, rfl⟩
     ·refine WN [3, 4, 5, 6, 9] rfl rfl (RS (SA TK rfl ?_))
      obtain ⟨r40, hr40, hm⟩ := BI hm
      refine SX rfl rfl (RD rfl rfl rfl (table_Settings_c hr40)) (SA TK rfl (TN (WN [3, 4, 5, 6, 15] rfl rfl ?_)))
      refine w_joinS hm (fun _ => ([] : Fr)) (fun _ => ([] : List (Nat × Blk))) [] [4, 5, 6, 15] rfl (fun z41 hm hz41 => ?_) (fun j hm => ?_)
      ·refine RS (SA TK rfl (SA TK rfl (SX rfl rfl (x_len TK rfl rfl rfl) (SA TK rfl (TN (WN [3, 4, 5, 6, 15, 91, 92, 93] rfl rfl (TB (w_loop hm (fun x43 => ([(93, .d (.int .i64 x43))] : Fr)) (fun x43 => ([] : List (Nat × Blk))) [93] [3, 4, 5, 6, 15, 91, 92] [0, 1, 2, 3] rfl k0 rfl rfl rfl rfl rfl (fun x43 z44 hm hz44 => (WN [3, 4, 5, 6, 15, 91, 92, 93] rfl rfl ?_))))))))))
       refine RS (SA TK rfl (TN (WN [3, 4, 5, 6, 15, 91, 92, 93, 94] rfl rfl (TQ ?_))))
       refine TC _ rfl (fun h45 => ?_) (fun h45 => ?_)
       ·replace hm := JT h45 hm
        refine TS (WT (WN [3, 4, 5, 6, 15, 91, 92, 93] rfl rfl (TQ (TB (RS (SA TK rfl ?_))))))
        obtain ⟨e46, he46, hm⟩ := GV hm
        refine SX rfl rfl (x_ix TK rfl rfl rfl rfl he46) (SA TK rfl (s_al 4 rfl rfl zero52 rfl (s_wkb 4 [none, none, none, some 3, some 2, some 1, none, none, some 3, some 2, some 1, some 2, some 1, some 2] rfl rfl (SA TK rfl (SA TK rfl (TN (WN [3, 4, 5, 6, 15, 16, 17, 91, 92, 93] rfl rfl ?_)))))))
        refine w_joinM hm (fun x47 => ([(113, .d (.bool (x47)))] : Fr)) (fun x47 => ([] : List (Nat × Blk))) [113] [3, 4, 5, 6, 15, 91, 92, 93] rfl (fun z48 hm => ?_) (fun x47 hm => ?_)
        ·refine twp_draw follows  ?_
         iterate 3 (refine DA [0, 1, 2, 3, 4] TK rfl ?_)
         refine d_b [0, 1, 2, 3, 4] TK rfl (fun q49 hq49 => ?_)
         cases q49
         ·replace hm := iteN_F hq49 hm
          iterate 12 (refine DA [0, 1, 2, 3, 4] TK rfl ?_)
          refine DT ?_ (by kernel_rfl)
          refine TN (WT ?_)
          exact ⟨_, [0, 1, 2, 3, 4], (SJ hm), rfl, k0, rfl⟩
         ·replace hm := iteN_T hq49 hm
          iterate 6 (refine DA [0, 1, 2, 3, 4] TK rfl ?_)
          obtain ⟨e50, he50, hm⟩ := GV hm
          refine DX [0, 1, 2, 3, 4] rfl rfl (x_ix TK rfl rfl rfl rfl he50) (DA [0, 1, 2, 3, 4] TK rfl ?_)
          obtain ⟨r51, hr51, hm⟩ := BI hm
          refine DX [0, 1, 2, 3, 4] rfl rfl (RD rfl rfl rfl (locks_bound_c hr51)) ?_
          obtain ⟨r52, hr52, hm⟩ := BI hm
          refine DX [0, 1, 2, 3, 4] rfl rfl (RN rfl rfl (SC (.d _) (SC (.d _) SN)) (conflict_Agree_c hr52)) ?_
          iterate 2 (refine DA [0, 1, 2, 3, 4] TK rfl ?_)
          refine DT ?_ (by kernel_rfl)
          refine TN (WT ?_)
          exact ⟨_, [0, 1, 2, 3, 4], (SJ hm), rfl, k0, rfl⟩
        ·refine WN [3, 4, 5, 6, 15, 91, 92, 93, 113] rfl rfl ?_
         refine TC _ rfl (fun h53 => ?_) (fun h53 => ?_)
         ·replace hm := JA h53 hm
          refine RS (SA TK rfl (TN (WN [8] rfl rfl (TR (WB (WR ?_))))))
          obtain ⟨v54, hm, hz⟩ := II hm
          rw [hz44 _ hz] at hm
          refine WR (WB ?_)
          obtain ⟨v55, hm, hz⟩ := II hm
          rw [hz41 _ hz] at hm
          refine WR ?_
          obtain rfl := OJ hm
          exact EndsS.one _ rfl (.d _) (.refl _)
         ·replace hm := JB h53 hm
          refine TS (WK (WT (WN [3, 4, 5, 6, 15, 91, 92, 93] rfl rfl (TG ?_))))
          obtain ⟨g56, hm⟩ := GI hm
          refine SX rfl rfl (x_ar rfl rfl rfl rfl g56) (SA TK rfl (TN (WT ?_)))
          exact ⟨_, [0, 1, 2, 3], (SJ hm), rfl, k0, rfl⟩
       ·replace hm := JF h45 hm
        refine twp_exit (WX ?_)
        obtain ⟨v57, hm, hz⟩ := II hm
        rw [hz44 _ hz] at hm
        refine WX (WH (WT ?_))
        exact ⟨_, [0, 1, 2, 3], (SJ hm), rfl, k0, rfl⟩
      ·refine WN [4, 5, 6, 15] rfl rfl ?_
       refine w_joinS hm (fun _ => ([] : Fr)) (fun _ => ([] : List (Nat × Blk))) [] [] rfl (fun z58 hm hz58 => ?_) (fun j hm => ?_)
       ·refine RS (SA TK rfl (SX rfl rfl (x_len TK rfl rfl rfl) (SA TK rfl (TN (WN [4, 5, 6, 115, 116, 117] rfl rfl (TB (w_loop hm (fun x60 => ([(117, .d (.int .i64 x60))] : Fr)) (fun x60 => ([] : List (Nat × Blk))) [117] [4, 5, 6, 115, 116] [0, 1, 2, 3] rfl k0 rfl rfl rfl rfl rfl (fun x60 z61 hm hz61 => (WN [4, 5, 6, 115, 116, 117] rfl rfl ?_)))))))))
        refine RS (SA TK rfl (TN (WN [4, 5, 6, 115, 116, 117, 118] rfl rfl (TQ ?_))))
        refine TC _ rfl (fun h62 => ?_) (fun h62 => ?_)
        ·replace hm := JT h62 hm
         refine TS (WT (WN [4, 5, 6, 115, 116, 117] rfl rfl (TQ (TB (RS ?_)))))
         obtain ⟨e63, he63, hm⟩ := GV hm
         refine SX rfl rfl (x_ix TK rfl rfl rfl rfl he63) (SA TK rfl (s_al 4 rfl rfl zero73 rfl (SA TK rfl (TN (WN [4, 5, 6, 19, 115, 116, 117] rfl rfl (RS (SA TK rfl (SA TK rfl (SA TK rfl ?_)))))))))
         obtain ⟨r64, hr64, hm⟩ := BI hm
         refine SX rfl rfl (RN rfl rfl (SC (.d _) (SC (.d _) SN)) (table_Index_c hr64)) (SA TK rfl (TN (WN [4, 5, 6, 19, 20, 115, 116, 117] rfl rfl ?_)))
         refine w_joinM hm (fun x65 => ([(142, .d (.bool (x65)))] : Fr)) (fun x65 => ([] : List (Nat × Blk))) [142] [4, 5, 6, 115, 116, 117] rfl (fun z66 hm => ?_) (fun x65 hm => ?_)
         ·refine twp_draw follows  ?_
          iterate 3 (refine DA [0, 1, 2, 3, 4] TK rfl ?_)
          obtain ⟨e67, he67, hm⟩ := GV hm
          refine DX [0, 1, 2, 3, 4] rfl rfl (x_ix TK rfl rfl rfl rfl he67) ?_
          iterate 4 (refine DA [0, 1, 2, 3, 4] TK rfl ?_)
          refine d_b [0, 1, 2, 3, 4] TK rfl (fun q68 hq68 => ?_)
          cases q68
          ·replace hm := iteN_F hq68 hm
           iterate 9 (refine DA [0, 1, 2, 3, 4] TK rfl ?_)
           refine DT ?_ (by kernel_rfl)
           refine TN (WT ?_)
           exact ⟨_, [0, 1, 2, 3, 4], (SJ hm), rfl, k0, rfl⟩
          ·replace hm := iteN_T hq68 hm
           iterate 5 (refine DA [0, 1, 2, 3, 4] TK rfl ?_)
           obtain ⟨e69, he69, hm⟩ := GV hm
           refine DX [0, 1, 2, 3, 4] rfl rfl (x_ix TK rfl rfl rfl rfl he69) (DA [0, 1, 2, 3, 4] TK rfl ?_)
           obtain ⟨r70, hr70, hm⟩ := BI hm
           refine DX [0, 1, 2, 3, 4] rfl rfl (RN rfl rfl (SC (.d _) (SC (.d _) SN)) (locks_restrictive_c hr70)) (DA [0, 1, 2, 3, 4] TK rfl ?_)
           refine DT ?_ (by kernel_rfl)
           refine TN (WT ?_)
           exact ⟨_, [0, 1, 2, 3, 4], (SJ hm), rfl, k0, rfl⟩
         ·refine WN [4, 5, 6, 115, 116, 117, 142] rfl rfl ?_
          refine TC _ rfl (fun h71 => ?_) (fun h71 => ?_)
          ·replace hm := JA h71 hm
           refine RS (SA TK rfl (TN (WN [8] rfl rfl (TR (WB (WR ?_))))))
           obtain ⟨v72, hm, hz⟩ := II hm
           rw [hz61 _ hz] at hm
           refine WR (WB ?_)
           obtain ⟨v73, hm, hz⟩ := II hm
           rw [hz58 _ hz] at hm
           refine WR ?_
           obtain rfl := OJ hm
           exact EndsS.one _ rfl (.d _) (.refl _)
          ·replace hm := JB h71 hm
           refine TS (WK (WT (WN [4, 5, 6, 115, 116, 117] rfl rfl (TG ?_))))
           obtain ⟨g74, hm⟩ := GI hm
           refine SX rfl rfl (x_ar rfl rfl rfl rfl g74) (SA TK rfl (TN (WT ?_)))
           exact ⟨_, [0, 1, 2, 3], (SJ hm), rfl, k0, rfl⟩
        ·replace hm := JF h62 hm
         refine twp_exit (WX ?_)
         obtain ⟨v75, hm, hz⟩ := II hm
         rw [hz61 _ hz] at hm
         refine WX (WH (WT ?_))
         exact ⟨_, [0, 1, 2, 3], (SJ hm), rfl, k0, rfl⟩
       ·refine WN [] rfl rfl (RS (SA TK rfl (TN (WN [8] rfl rfl (TR ?_)))))
        obtain rfl := OJ hm
        exact EndsS.one _ rfl (.d _) (.refl _)

end Go.Proofs.YtdhicpmpefkojaaGreat
