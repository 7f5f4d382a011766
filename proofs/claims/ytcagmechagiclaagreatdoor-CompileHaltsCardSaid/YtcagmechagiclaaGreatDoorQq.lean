/- Texts of this proof, joined, without what it does not use. No condition. -/
import Derived.Ground.NamesProg
import Derived.Shelf.SlSortCmp.NoneTotal
import Derived.Shelf.Slices.CompactI
import Derived.Shelf.Slices.In.SortNone
import Derived.Shelf.Sort.Plain
import Derived.Shelf.Strconv.Itoa3
import Derived.Test.YtcagmechagiclaaGreatDoorQp

set_option maxHeartbeats 8000000
set_option linter.unusedSimpArgs false
set_option linter.unusedVariables false
set_option maxRecDepth 20000
namespace Go.Proofs.YtcagmechagiclaaGreatDoor
open Go Go.TL Go.Sort Go.Shelf Go.RowKit Go.Lib

def sort146_ren : Go.Shelf.Ren := ⟨fun | 6 => 146 | 15 => 158 | 14 => 173 | 28 => 185 | 29 => 186 | 20 => 189 | 21 => 190 | 22 => 191 | 23 => 192 | 24 => 193 | 25 => 194 | 26 => 195 | 27 => 196 | 46 => 206 | 47 => 202 | 48 => 203 | 49 => 207 | 50 => 208 | 57 => 214 | n => n, fun | 22 => 71 | 24 => 133 | 25 => 169 | 3 => 3 | 39 => 186 | 0 => 0 | 53 => 208 | 55 => 210 | 4 => 4 | 46 => 203 | 45 => 202 | 50 => 109 | 5 => 5 | 9 => 9 | 66 => 223 | 70 => 174 | 76 => 233 | 77 => 234 | n => n, fun | n => n⟩
theorem sort146 : Go.Proofs.SlLaysF0.n6 Tryz.prog sort146_ren where
 mixed := by kernel_rfl
 f6 := ⟨Tryz.f146.name, by kernel_rfl, Tryz.func146.trans (congrArg some (by kernel_rfl))⟩
 f14 := ⟨Tryz.f173.name, by kernel_rfl, Tryz.func173.trans (congrArg some (by kernel_rfl))⟩
 f15 := Tryz.func158.trans (congrArg some (by kernel_rfl))
 f20 := ⟨Tryz.f189.name, by kernel_rfl, Tryz.func189.trans (congrArg some (by kernel_rfl))⟩
 f21 := ⟨Tryz.f190.name, by kernel_rfl, Tryz.func190.trans (congrArg some (by kernel_rfl))⟩
 f22 := ⟨Tryz.f191.name, by kernel_rfl, Tryz.func191.trans (congrArg some (by kernel_rfl))⟩
 f23 := ⟨Tryz.f192.name, by kernel_rfl, Tryz.func192.trans (congrArg some (by kernel_rfl))⟩
 f24 := ⟨Tryz.f193.name, by kernel_rfl, Tryz.func193.trans (congrArg some (by kernel_rfl))⟩
 f25 := ⟨Tryz.f194.name, by kernel_rfl, Tryz.func194.trans (congrArg some (by kernel_rfl))⟩
 f26 := ⟨Tryz.f195.name, by kernel_rfl, Tryz.func195.trans (congrArg some (by kernel_rfl))⟩
 f27 := ⟨Tryz.f196.name, by kernel_rfl, Tryz.func196.trans (congrArg some (by kernel_rfl))⟩
 f28 := Tryz.func185.trans (congrArg some (by kernel_rfl))
 f29 := Tryz.func186.trans (congrArg some (by kernel_rfl))
 f46 := ⟨Tryz.f206.name, by kernel_rfl, Tryz.func206.trans (congrArg some (by kernel_rfl))⟩
 f47 := Tryz.func202.trans (congrArg some (by kernel_rfl))
 f48 := Tryz.func203.trans (congrArg some (by kernel_rfl))
 f49 := ⟨Tryz.f207.name, by kernel_rfl, Tryz.func207.trans (congrArg some (by kernel_rfl))⟩
 f50 := ⟨Tryz.f208.name, by kernel_rfl, Tryz.func208.trans (congrArg some (by kernel_rfl))⟩
 f57 := ⟨Tryz.f214.name, by kernel_rfl, Tryz.func214.trans (congrArg some (by kernel_rfl))⟩
 t0 := Tryz.underlying0
 a0 := Tryz.isAgg0
 z0 := Tryz.sizeOf0
 v0 := Tryz.zeroValue0
 t3 := Tryz.underlying3
 a3 := Tryz.isAgg3
 z3 := Tryz.sizeOf3
 v3 := Tryz.zeroValue3
 t4 := Tryz.underlying4
 a4 := Tryz.isAgg4
 z4 := Tryz.sizeOf4
 v4 := Tryz.zeroValue4
 t5 := Tryz.underlying5
 a5 := Tryz.isAgg5
 z5 := Tryz.sizeOf5
 v5 := Tryz.zeroValue5
 t9 := Tryz.underlying9
 a9 := Tryz.isAgg9
 z9 := Tryz.sizeOf9
 v9 := Tryz.zeroValue9
 t22 := Tryz.underlying71
 a22 := Tryz.isAgg71
 z22 := Tryz.sizeOf71
 v22 := Tryz.zeroValue71
 t25 := Tryz.underlying169
 a25 := Tryz.isAgg169
 z25 := Tryz.sizeOf169
 v25 := Tryz.zeroValue169
 t39 := Tryz.underlying186
 a39 := Tryz.isAgg186
 z39 := Tryz.sizeOf186
 v39 := Tryz.zeroValue186
 t45 := Tryz.underlying202
 a45 := Tryz.isAgg202
 z45 := Tryz.sizeOf202
 v45 := Tryz.zeroValue202
 t46 := Tryz.underlying203
 a46 := Tryz.isAgg203
 z46 := Tryz.sizeOf203
 v46 := Tryz.zeroValue203
 t50 := Tryz.underlying109
 a50 := Tryz.isAgg109
 z50 := Tryz.sizeOf109
 v50 := Tryz.zeroValue109
 t53 := Tryz.underlying208
 a53 := Tryz.isAgg208
 z53 := Tryz.sizeOf208
 v53 := Tryz.zeroValue208
 t55 := Tryz.underlying210
 a55 := Tryz.isAgg210
 z55 := Tryz.sizeOf210
 v55 := Tryz.zeroValue210
 t66 := Tryz.underlying223
 a66 := Tryz.isAgg223
 z66 := Tryz.sizeOf223
 v66 := Tryz.zeroValue223
 t70 := Tryz.underlying174
 a70 := Tryz.isAgg174
 z70 := Tryz.sizeOf174
 v70 := Tryz.zeroValue174
 t76 := Tryz.underlying233
 a76 := Tryz.isAgg233
 z76 := Tryz.sizeOf233
 v76 := Tryz.zeroValue233
 t77 := Tryz.underlying234
 a77 := Tryz.isAgg234
 z77 := Tryz.sizeOf234
 v77 := Tryz.zeroValue234
theorem slices_SortFunc_Setting_c {G : FuncId} {c : D} {cs : List D} {m : Setting → Setting → Option Int} (hs : SortOk m) (hfn : fnOf c = some (G, cs)) (hclo : ∀ a b r, m a b = some r → RetD Tryz.prog G ([a.enc, b.enc] ++ cs) (.int .i64 r)) (xs : List Setting) (hlen : xs.length ≤ 1000000000) : Ret Tryz.prog 146 [.flat 133 2 (xs.map Setting.enc)] (fun _ => false) [.msl 0 2 0 xs.length, .d c] (.tup []) [.flat 133 2 ((sortM m xs).map Setting.enc)] := by
 have hcb : callB Tryz.prog G = true := by
  obtain ⟨r, hr⟩ := hs.tot default default
  obtain ⟨_, _, _, h, _⟩ := hclo _ _ _ hr
  exact h.1
 have hlt : ltOf (fun x y => (m x y).getD 0) = ltM m := rfl
 have hS := ret_sortK (P := Tryz.prog) (F := 146) (G := G) (sz := 2) (f := Setting.enc) (c := c) (cs := cs) (cf := fun x y => (m x y).getD 0) (S := fun d => d.toList.mergeSort fun x y => !(ltM m) y x) 133 (fun _ => false) xs callB146 (fun _ => rfl) (fun _ => rfl) (fun _ => rfl) hfn
  (fun x y => by obtain ⟨r, hr⟩ := hs.tot x y; rw [hr]; exact hclo x y r hr) (by omega) (by rw [List.length_mergeSort])
  (fun p cap fv w => AnyF.slices_SortFunc_none { sort146 with } p cap fv w)
  (fun blk off cap cb d w hcl hH hb hl => AnyQ.slices_SortFunc_total sort146 2 Tryz.isAgg133 Tryz.sizeOf133 (fun x => (Setting.enc x).cells.map D.val) (fun _ => rfl) (fun x v hv => by obtain ⟨c, hc, rfl⟩ := List.mem_map.1 hv; simp only [Setting.enc, D.cells, List.mem_cons, List.not_mem_nil, or_false] at hc; rcases hc with rfl | rfl <;> rfl) (fun x y => (m x y).getD 0)
   ⟨hs.irrefl, hs.trans, hs.ntrans⟩ G cb blk off cap d w (callB_enters hcb) hcl hH hb hl hs.anti)
 rwa [show (xs.toArray.toList.mergeSort fun x y => !(ltM m) y x) = sortM m xs from sortM_merge hs xs] at hS

def itoa97_ren : Go.Shelf.Ren := ⟨fun | 171 => 97 | 243 => 150 | 246 => 175 | 283 => 197 | 284 => 198 | 285 => 199 | 286 => 200 | 129 => 186 | 317 => 209 | 318 => 210 | 319 => 211 | 320 => 212 | 337 => 215 | 338 => 216 | n => n, fun | 3 => 3 | 9 => 9 | 2 => 2 | 4 => 4 | 171 => 218 | 0 => 0 | 53 => 210 | 37 => 220 | 5 => 5 | 173 => 221 | 212 => 231 | 51 => 208 | 20 => 20 | 213 => 232 | 46 => 186 | 232 => 237 | 233 => 238 | n => n, fun | 17 => 0 | 18 => 1 | 19 => 2 | n => n⟩
theorem itoa97 : Go.Proofs.Lays.n171 Tryz.prog itoa97_ren where
 mixed := by kernel_rfl
 f129 := Tryz.func186.trans (congrArg some (by kernel_rfl))
 f171 := Tryz.func97.trans (congrArg some (by kernel_rfl))
 f243 := Tryz.func150.trans (congrArg some (by kernel_rfl))
 f246 := Tryz.func175.trans (congrArg some (by kernel_rfl))
 f283 := Tryz.func197.trans (congrArg some (by kernel_rfl))
 f284 := Tryz.func198.trans (congrArg some (by kernel_rfl))
 f285 := Tryz.func199.trans (congrArg some (by kernel_rfl))
 f286 := Tryz.func200.trans (congrArg some (by kernel_rfl))
 f317 := Tryz.func209.trans (congrArg some (by kernel_rfl))
 f318 := Tryz.func210.trans (congrArg some (by kernel_rfl))
 f319 := Tryz.func211.trans (congrArg some (by kernel_rfl))
 f320 := Tryz.func212.trans (congrArg some (by kernel_rfl))
 f337 := Tryz.func215.trans (congrArg some (by kernel_rfl))
 f338 := Tryz.func216.trans (congrArg some (by kernel_rfl))
 t0 := Tryz.underlying0
 a0 := Tryz.isAgg0
 z0 := Tryz.sizeOf0
 v0 := Tryz.zeroValue0
 t2 := Tryz.underlying2
 a2 := Tryz.isAgg2
 z2 := Tryz.sizeOf2
 v2 := Tryz.zeroValue2
 t3 := Tryz.underlying3
 a3 := Tryz.isAgg3
 z3 := Tryz.sizeOf3
 v3 := Tryz.zeroValue3
 t4 := Tryz.underlying4
 a4 := Tryz.isAgg4
 z4 := Tryz.sizeOf4
 v4 := Tryz.zeroValue4
 t5 := Tryz.underlying5
 a5 := Tryz.isAgg5
 z5 := Tryz.sizeOf5
 v5 := Tryz.zeroValue5
 t9 := Tryz.underlying9
 a9 := Tryz.isAgg9
 z9 := Tryz.sizeOf9
 v9 := Tryz.zeroValue9
 t20 := Tryz.underlying20
 a20 := Tryz.isAgg20
 z20 := Tryz.sizeOf20
 v20 := Tryz.zeroValue20
 t37 := Tryz.underlying220
 a37 := Tryz.isAgg220
 z37 := Tryz.sizeOf220
 v37 := Tryz.zeroValue220
 t46 := Tryz.underlying186
 a46 := Tryz.isAgg186
 z46 := Tryz.sizeOf186
 v46 := Tryz.zeroValue186
 t51 := Tryz.underlying208
 a51 := Tryz.isAgg208
 z51 := Tryz.sizeOf208
 v51 := Tryz.zeroValue208
 t53 := Tryz.underlying210
 a53 := Tryz.isAgg210
 z53 := Tryz.sizeOf210
 v53 := Tryz.zeroValue210
 t171 := Tryz.underlying218
 a171 := Tryz.isAgg218
 z171 := Tryz.sizeOf218
 v171 := Tryz.zeroValue218
 t173 := Tryz.underlying221
 a173 := Tryz.isAgg221
 z173 := Tryz.sizeOf221
 v173 := Tryz.zeroValue221
 t212 := Tryz.underlying231
 a212 := Tryz.isAgg231
 z212 := Tryz.sizeOf231
 v212 := Tryz.zeroValue231
 t213 := Tryz.underlying232
 a213 := Tryz.isAgg232
 z213 := Tryz.sizeOf232
 t232 := Tryz.underlying237
 a232 := Tryz.isAgg237
 z232 := Tryz.sizeOf237
 v232 := Tryz.zeroValue237
 t233 := Tryz.underlying238
 a233 := Tryz.isAgg238
 z233 := Tryz.sizeOf238
 v233 := Tryz.zeroValue238
 g17 := by kernel_rfl
 g18 := by kernel_rfl
 g19 := by kernel_rfl
theorem itoa97_small (i : Nat) (hi : i < 100) : RetN Tryz.prog 97 [.int .i64 i] (.str ⟨(Go.Lib.decDigits i).toArray⟩) := retN_str1 callB97 fun w => Any.strconv_Itoa_small itoa97 i hi w

end Go.Proofs.YtcagmechagiclaaGreatDoor

set_option maxHeartbeats 8000000
set_option linter.unusedSimpArgs false
set_option linter.unusedVariables false
set_option maxRecDepth 20000
namespace Go.Proofs.YtcagmechagiclaaGreatDoor
open Go Go.TL

theorem law24_small_c {p0 : Table} {r : Bool} (hm : law24_small p0 = some r) : RetN Tryz.prog 9 [p0.enc] (.bool (r)) := by
 refine .unit (ret_bodyS callB9 Tryz.func9 rfl Tryz.ntmps9 rfl rfl (fun wX gX => ?_)) rfl
 unfold law24_small at hm
 refine WN [0] rfl rfl (RS (s_bx 0 rfl rfl rfl (SA TK rfl (TN (WN [1] rfl rfl ?_)))))
 refine w_joinS hm (fun _ => ([] : Fr)) (fun _ => ([] : List (Nat × Blk))) [] [1] rfl (fun z1 hm hz1 => ?_) (fun j hm => ?_)
 ·refine RS (SA TK rfl (SA TK rfl (SX rfl rfl (x_len TK rfl rfl rfl) (SA TK rfl (TN (WN [1, 6, 7, 8] rfl rfl (TB (w_loop hm (fun x3 => ([(8, .d (.int .i64 x3))] : Fr)) (fun x3 => ([] : List (Nat × Blk))) [8] [1, 6, 7] [0] rfl k0 rfl rfl rfl rfl rfl (fun x3 z4 hm hz4 => (WN [1, 6, 7, 8] rfl rfl ?_))))))))))
  refine RS (SA TK rfl (TN (WN [1, 6, 7, 8, 9] rfl rfl (TQ ?_))))
  refine TC _ rfl (fun h5 => ?_) (fun h5 => ?_)
  ·replace hm := JT h5 hm
   refine TS (WT (WN [1, 6, 7, 8] rfl rfl (TQ (TB (RS ?_)))))
   obtain ⟨e6, he6, hm⟩ := GV hm
   refine SX rfl rfl (x_ix TK rfl rfl rfl rfl he6) (SA TK rfl (s_al 1 rfl rfl zero74 rfl (s_wkb 1 [none, none, none, some 3, some 2, some 1, none, none, some 3, some 2, some 1, some 2, some 1, some 2] rfl rfl (SA TK rfl (TN (WN [1, 4, 6, 7, 8] rfl rfl (RS (SA TK rfl (SA TK rfl ?_)))))))))
   refine SX rfl rfl (x_len TK rfl rfl rfl) (SA TK rfl (SA TK rfl (SX rfl rfl (x_len TK rfl rfl rfl) ?_)))
   obtain ⟨g7, hm⟩ := GI hm
   refine SX rfl rfl (x_ar rfl rfl rfl rfl g7) (SA TK rfl (SA TK rfl (SX rfl rfl (x_len TK rfl rfl rfl) ?_)))
   obtain ⟨g8, hm⟩ := GI hm
   refine SX rfl rfl (x_ar rfl rfl rfl rfl g8) (SA TK rfl (SA TK rfl (SX rfl rfl (x_len TK rfl rfl rfl) ?_)))
   obtain ⟨g9, hm⟩ := GI hm
   refine SX rfl rfl (x_ar rfl rfl rfl rfl g9) (SA TK rfl (SA TK rfl (SX rfl rfl (x_len TK rfl rfl rfl) ?_)))
   obtain ⟨g10, hm⟩ := GI hm
   refine SX rfl rfl (x_ar rfl rfl rfl rfl g10) (SA TK rfl (SA TK rfl (SX rfl rfl (x_len TK rfl rfl rfl) ?_)))
   obtain ⟨g11, hm⟩ := GI hm
   refine SX rfl rfl (x_ar rfl rfl rfl rfl g11) (SA TK rfl (TN (WN [1, 6, 7, 8, 35] rfl rfl ?_)))
   refine TC _ rfl (fun h12 => ?_) (fun h12 => ?_)
   ·replace hm := JT h12 hm
    refine RS (SA TK rfl (TN (WN [2] rfl rfl (TR (WB (WR ?_))))))
    obtain ⟨v13, hm, hz⟩ := II hm
    rw [hz4 _ hz] at hm
    refine WR (WB ?_)
    obtain ⟨v14, hm, hz⟩ := II hm
    rw [hz1 _ hz] at hm
    refine WR ?_
    obtain rfl := OJ hm
    exact EndsS.one _ rfl (.d _) (.refl _)
   ·replace hm := JF h12 hm
    refine TS (WK (WT (WN [1, 6, 7, 8] rfl rfl (TG ?_))))
    obtain ⟨g15, hm⟩ := GI hm
    refine SX rfl rfl (x_ar rfl rfl rfl rfl g15) (SA TK rfl (TN (WT ?_)))
    exact ⟨_, [0], (SJ hm), rfl, k0, rfl⟩
  ·replace hm := JF h5 hm
   refine twp_exit (WX ?_)
   obtain ⟨v16, hm, hz⟩ := II hm
   rw [hz4 _ hz] at hm
   refine WX (WH (WT ?_))
   exact ⟨_, [0], (SJ hm), rfl, k0, rfl⟩
 ·refine WN [1] rfl rfl ?_
  refine w_cut [(2, .d (.bool (((decide ((p0.routes.length : Int) ≤ (100 : Int))) && (decide ((p0.points.length : Int) ≤ (100 : Int)))))))] [2] [] rfl ?_ ?_
  ·refine TG (SA TK rfl (SA TK rfl (SX rfl rfl (x_len TK rfl rfl rfl) (SA TK rfl (SB TK rfl (fun q17 hq17 => ?_))))))
   cases q17
   ·iterate 6 (refine SA TK rfl ?_)
    refine TN (WT ?_)
    exact ⟨[0], rfl, k0, st_eq (fr_cons (av_bool (by simp [hq17])) rfl) rfl⟩
   ·refine SA TK rfl (SA TK rfl (SX rfl rfl (x_len TK rfl rfl rfl) (SA TK rfl (SA TK rfl (SA TK rfl (TN (WT ?_)))))))
    exact ⟨[0], rfl, k0, st_eq (fr_cons (av_bool (by simp [hq17])) rfl) rfl⟩
  ·refine WN [2] rfl rfl (TR ?_)
   obtain rfl := OJ hm
   exact EndsS.one _ rfl (.d _) (.refl _)

theorem law24_line_c  {r : Table} (hm : law24_line  = some r) : RetD Tryz.prog 29 [] (r.enc) := by
 refine .of (mv := fun _ => false) (ret_bodyS callB29 Tryz.func29 rfl Tryz.ntmps29 rfl rfl (fun wX gX => ?_))
 unfold law24_line at hm
 refine WN [] rfl rfl (RS (s_al 0 rfl rfl zero25 rfl (s_wkb 0 [some 14, some 1, some 1, none, none] rfl rfl (TN (WN [0] rfl rfl (RS (SX rfl rfl (build_d rfl plc126 zero126 rfl rfl rfl rfl) (SX rfl rfl (x_lit [.tmp 1] TK rfl rfl zero126 rfl rfl rfl rfl rfl) ?_))))))))
 refine SX rfl rfl (x_lit [.const (Value.int IntKind.i64 1)] TK rfl rfl zero3 rfl rfl rfl rfl rfl) (SX rfl rfl (build_d rfl plc74 zero74 rfl rfl rfl rfl) (s_wk 4 [none, none, none, none, some 2, none, none, none, some 3, some 2, some 1, some 2, some 1, some 2] rfl (SX rfl rfl (build_d rfl plc126 zero126 rfl rfl rfl rfl) (SX rfl rfl (x_lit [.tmp 5] TK rfl rfl zero126 rfl rfl rfl rfl rfl) (SX rfl rfl (x_lit [.const (Value.int IntKind.i64 2)] TK rfl rfl zero3 rfl rfl rfl rfl rfl) (SX rfl rfl (build_d rfl plc74 zero74 rfl rfl rfl rfl) (s_wk 8 [none, none, none, none, some 2, none, none, none, some 3, some 2, some 1, some 2, some 1, some 2] rfl (SX rfl rfl (x_lit [.tmp 4, .tmp 8] TK rfl rfl zero74 rfl rfl rfl rfl rfl) ?_))))))))
 refine SX rfl rfl (build_d rfl plc25 zero25 rfl rfl rfl rfl) (s_wk 10 [none, some 1, some 1, none, none] rfl (SA TK rfl (TN (WN [0] rfl rfl (TR ?_)))))
 obtain rfl := OJ hm
 exact EndsS.cellR _ TK rfl rfl rfl rfl rfl (.d _)

theorem table_within_c {p0 : Int} {p1 : Int} {r : Bool} (hm : table_within p0 p1 = some r) : RetN Tryz.prog 117 [.int .i64 p0, .int .i64 p1] (.bool (r)) := by
 refine .unit (ret_bodyS callB117 Tryz.func117 rfl Tryz.ntmps117 rfl rfl (fun wX gX => ?_)) rfl
 unfold table_within at hm
 refine WN [0, 1] rfl rfl (RS (SA TK rfl (TN (WN [0, 1] rfl rfl ?_))))
 refine w_cut [(4, .d (.bool (((decide ((0 : Int) ≤ p0)) && (decide (p0 < p1))))))] [4] [] rfl ?_ ?_
 ·refine TG (SA TK rfl (SA TK rfl (SB TK rfl (fun q1 hq1 => ?_))))
  cases q1
  ·iterate 5 (refine SA TK rfl ?_)
   refine TN (WT ?_)
   exact ⟨[], rfl, k0, st_eq (fr_cons (av_bool (by simp [hq1])) rfl) rfl⟩
  ·iterate 5 (refine SA TK rfl ?_)
   refine TN (WT ?_)
   exact ⟨[], rfl, k0, st_eq (fr_cons (av_bool (by simp [hq1])) rfl) rfl⟩
 ·refine WN [4] rfl rfl (TR ?_)
  obtain rfl := OJ hm
  exact EndsS.one _ rfl (.d _) (.refl _)

theorem table_pointsRight_c {p0 : Table} {r : Bool} (hm : table_pointsRight p0 = some r) : RetN Tryz.prog 118 [p0.enc] (.bool (r)) := by
 refine .unit (ret_bodyS callB118 Tryz.func118 rfl Tryz.ntmps118 rfl rfl (fun wX gX => ?_)) rfl
 unfold table_pointsRight at hm
 refine WN [0] rfl rfl (RS (s_bx 0 rfl rfl rfl (SA TK rfl (TN (WN [1] rfl rfl (TQ (RS (SA TK rfl (SA TK rfl ?_)))))))))
 refine SX rfl rfl (x_len TK rfl rfl rfl) (SA TK rfl (SA TK rfl (SX rfl rfl (x_len TK rfl rfl rfl) (SA TK rfl (TN (WN [1, 11] rfl rfl ?_))))))
 refine TC _ rfl (fun h1 => ?_) (fun h1 => ?_)
 ·replace hm := iteN_T h1 hm
  refine RS (SA TK rfl (TN (WN [2] rfl rfl (TR (WR ?_)))))
  obtain rfl := OJ hm
  exact EndsS.one _ rfl (.d _) (.refl _)
 ·replace hm := iteN_F h1 hm
  refine TS (WT (WN [1] rfl rfl ?_))
  refine w_joinS hm (fun _ => ([] : Fr)) (fun _ => ([] : List (Nat × Blk))) [] [] rfl (fun z2 hm hz2 => ?_) (fun j hm => ?_)
  ·refine RS (SA TK rfl (SA TK rfl (SX rfl rfl (x_len TK rfl rfl rfl) (SA TK rfl (TN (WN [1, 13, 14, 15] rfl rfl (TB (w_loop hm (fun x4 => ([(15, .d (.int .i64 x4))] : Fr)) (fun x4 => ([] : List (Nat × Blk))) [15] [1, 13, 14] [0] rfl k0 rfl rfl rfl rfl rfl (fun x4 z5 hm hz5 => (WN [1, 13, 14, 15] rfl rfl ?_))))))))))
   refine RS (SA TK rfl (TN (WN [1, 13, 14, 15, 16] rfl rfl (TQ ?_))))
   refine TC _ rfl (fun h6 => ?_) (fun h6 => ?_)
   ·replace hm := JT h6 hm
    refine TS (WT (WN [1, 13, 14, 15] rfl rfl (TQ (TB (RS (SA TK rfl ?_))))))
    obtain ⟨e7, he7, hm⟩ := GV hm
    refine SX rfl rfl (x_ix TK rfl rfl rfl rfl he7) (SA TK rfl (SA TK rfl (SA TK rfl (TN (WN [1, 3, 4, 13, 14, 15] rfl rfl ?_)))))
    refine w_joinM hm (fun x8 => ([(46, .d (.bool (x8)))] : Fr)) (fun x8 => ([] : List (Nat × Blk))) [46] [1, 13, 14, 15] rfl (fun z9 hm => ?_) (fun x8 hm => ?_)
    ·refine twp_draw follows  ?_
     iterate 2 (refine DA [0] TK rfl ?_)
     refine d_b [0] TK rfl (fun q10 hq10 => ?_)
     cases q10
     ·replace hm := JF hq10 hm
      iterate 2 (refine DA [0] TK rfl ?_)
      refine d_b [0] TK rfl (fun q11 hq11 => ?_)
      cases q11
      ·replace hm := JF hq11 hm
       iterate 14 (refine DA [0] TK rfl ?_)
       obtain ⟨e12, he12, hm⟩ := GV hm
       refine DX [0] rfl rfl (x_ix TK rfl rfl rfl rfl he12) ?_
       iterate 3 (refine DA [0] TK rfl ?_)
       obtain ⟨r13, hr13, hm⟩ := BI hm
       refine DX [0] rfl rfl (RN rfl rfl (SC (.d _) (SC (.d _) SN)) (table_within_c hr13)) ?_
       iterate 2 (refine DA [0] TK rfl ?_)
       refine DT ?_ (by kernel_rfl)
       refine TN (WT ?_)
       exact ⟨_, [0], (SJ hm), rfl, k0, rfl⟩
      ·replace hm := JT hq11 hm
       iterate 4 (refine DA [0] TK rfl ?_)
       obtain ⟨g14, hm⟩ := GI hm
       refine DX [0] rfl rfl (x_ar rfl rfl rfl rfl g14) ?_
       obtain ⟨e15, he15, hm⟩ := GV hm
       refine DX [0] rfl rfl (x_ix TK rfl rfl rfl rfl he15) ?_
       iterate 4 (refine DA [0] TK rfl ?_)
       refine d_b [0] TK rfl (fun q16 hq16 => ?_)
       cases q16
       ·replace hm := JF hq16 hm
        iterate 3 (refine DA [0] TK rfl ?_)
        obtain ⟨e17, he17, hm⟩ := GV hm
        refine DX [0] rfl rfl (x_ix TK rfl rfl rfl rfl he17) ?_
        iterate 3 (refine DA [0] TK rfl ?_)
        obtain ⟨r18, hr18, hm⟩ := BI hm
        refine DX [0] rfl rfl (RN rfl rfl (SC (.d _) (SC (.d _) SN)) (table_within_c hr18)) ?_
        iterate 2 (refine DA [0] TK rfl ?_)
        refine DT ?_ (by kernel_rfl)
        refine TN (WT ?_)
        exact ⟨_, [0], (SJ hm), rfl, k0, rfl⟩
       ·replace hm := JT hq16 hm
        iterate 10 (refine DA [0] TK rfl ?_)
        refine DT ?_ (by kernel_rfl)
        refine TN (WT ?_)
        exact ⟨_, [0], (SJ hm), rfl, k0, rfl⟩
     ·replace hm := JT hq10 hm
      iterate 24 (refine DA [0] TK rfl ?_)
      refine DT ?_ (by kernel_rfl)
      refine TN (WT ?_)
      exact ⟨_, [0], (SJ hm), rfl, k0, rfl⟩
    ·refine WN [1, 13, 14, 15, 46] rfl rfl ?_
     refine TC _ rfl (fun h19 => ?_) (fun h19 => ?_)
     ·replace hm := JA h19 hm
      refine RS (SA TK rfl (TN (WN [2] rfl rfl (TR (WB (WR ?_))))))
      obtain ⟨v20, hm, hz⟩ := II hm
      rw [hz5 _ hz] at hm
      refine WR (WB ?_)
      obtain ⟨v21, hm, hz⟩ := II hm
      rw [hz2 _ hz] at hm
      refine WR ?_
      obtain rfl := OJ hm
      exact EndsS.one _ rfl (.d _) (.refl _)
     ·replace hm := JB h19 hm
      refine TS (WK (WT (WN [1, 13, 14, 15] rfl rfl (TG ?_))))
      obtain ⟨g22, hm⟩ := GI hm
      refine SX rfl rfl (x_ar rfl rfl rfl rfl g22) (SA TK rfl (TN (WT ?_)))
      exact ⟨_, [0], (SJ hm), rfl, k0, rfl⟩
   ·replace hm := JF h6 hm
    refine twp_exit (WX ?_)
    obtain ⟨v23, hm, hz⟩ := II hm
    rw [hz5 _ hz] at hm
    refine WX (WH (WT ?_))
    exact ⟨_, [0], (SJ hm), rfl, k0, rfl⟩
  ·refine WN [] rfl rfl (RS (SA TK rfl (TN (WN [2] rfl rfl (TR ?_)))))
   obtain rfl := OJ hm
   exact EndsS.one _ rfl (.d _) (.refl _)

theorem slices_Concat_intGrow (n : Nat) (hn : n ≤ 1000000000) (mv : Nat → Bool) : Ret Tryz.prog 143 [] mv ([.nilsl, .int .i64 n].map .d) (.msl 0 1 0 0) [.flat 3 1 []] := by
 refine ret_body callB143 Tryz.func143 rfl Tryz.ntmps143 rfl rfl (fun wX gX => (twp_norm [0, 1] (sub_d rfl (sub_d rfl .nil)) (blk_nil rfl) (RS (s_rd _ rfl (mv_d (.inr rfl) rfl) (TN (twp_norm [0, 1] (sub_d rfl (sub_d rfl .nil)) (blk_nil rfl) (TQ (RS (s_rd _ rfl (mv_d (.inl rfl) rfl) ?_)))))))))
 refine s_rd _ rfl (cmp_int rfl rfl rfl rfl) (TN (twp_norm [0, 1, 6] (sub_d rfl (sub_d rfl (sub_d rfl .nil))) (blk_nil rfl) ?_))
 refine TC _ rfl (fun hneg => ?_) (fun hneg => ?_)
 ·exact absurd (of_decide_eq_true hneg) (by omega)
 ·refine TS (WT (twp_norm [0, 1] (sub_d rfl (sub_d rfl .nil)) (blk_nil rfl) (TQ (RS (s_rd _ rfl (mv_d (.inl rfl) rfl) (s_rd _ rfl (mv_d (.inl rfl) rfl) (s_rd _ rfl (cap_nil rfl sel23 rfl) (s_rd _ rfl (mv_d (.inl rfl) rfl) ?_))))))))
  refine s_rd _ rfl (len_nil rfl sel23 rfl) ?_
  refine s_rd _ rfl (arith_to (r := 0) rfl rfl rfl rfl rfl (by first | omega | (constructor <;> omega))) ?_
  refine s_rd _ rfl (arith_to (r := (n : Int)) rfl rfl rfl rfl (by omega) (by first | omega | (constructor <;> omega))) ?_
  refine s_rd _ rfl (mv_d (.inr rfl) rfl) (TN (twp_norm [0, 1] (sub_d rfl (sub_d rfl .nil)) (blk_nil rfl) (RS (s_rd _ rfl (mv_d (.inl rfl) rfl) (s_rd _ rfl (cmp_int rfl rfl rfl rfl) (TN (twp_norm [0, 1, 16] (sub_d rfl (sub_d rfl (sub_d rfl .nil))) (blk_nil rfl) ?_)))))))
  refine TC _ rfl (fun hpos => ?_) (fun hpos => ?_)
  ·have hpos : 0 < n := by simpa using hpos
   refine TG (s_rd _ rfl (mv_d (.inl rfl) rfl) (s_rd _ rfl (mv_d (.inl rfl) rfl) (s_rd _ rfl (cap_nil rfl sel23 rfl) (s_rd _ rfl (cut_nil rfl sel23 rfl rfl rfl) (s_rd _ rfl (mv_d (.inl rfl) rfl) ?_)))))
   refine s_zeros (n := n) rfl sel23 Tryz.underlying3 zero3 rfl rfl rfl hpos (by decide) (by omega) (by omega) ?_
   refine s_rd _ rfl (mv_d (.inl rfl) rfl) (s_rd _ rfl (len_nil rfl sel23 rfl) (s_rd _ rfl (rd_cut_msl 0 1 8 0 n 0 0 rfl sel23 rfl rfl rfl (Nat.le_refl _) (Nat.zero_le _)) (s_rd _ rfl (mv_msl (.inr rfl) rfl) (TN (WT (twp_norm [0] (sub_msl rfl .nil) (blk_flat rfl (blk_nil rfl)) (RS (s_rd _ rfl (mv_msl (.inl rfl) rfl) ?_))))))))
   refine s_rd _ rfl (mv_msl (.inr rfl) rfl) (TN (twp_norm [4] (sub_msl rfl .nil) (blk_flat rfl (blk_nil rfl)) (TR ?_)))
   exact ⟨_, [0], res rfl, by decide, fun i hi => absurd hi (Nat.not_lt_zero i), rfl, rfl⟩
  ·refine twp_upgrade 0 3 1 rfl (TS (WT (twp_norm [0] (sub_msl rfl .nil) (blk_flat rfl (blk_nil rfl)) (RS (s_rd _ rfl (mv_msl (.inl rfl) rfl) (s_rd _ rfl (mv_msl (.inr rfl) rfl) (TN (twp_norm [4] (sub_msl rfl .nil) (blk_flat rfl (blk_nil rfl)) ?_))))))))
   refine TR ?_
   exact ⟨_, [0], res rfl, by decide, fun i hi => absurd hi (Nat.not_lt_zero i), rfl, rfl⟩

theorem slices_Concat_intConcat (xss : List (List Int)) (hn : xss.length ≤ 1000) (ht : xss.flatten.length ≤ 1000000000) (mv : Nat → Bool) : Ret Tryz.prog 91 [] mv ([.sl 1 (xss.map fun l => .sl 1 (l.map (D.int .i64)))].map .d) (.msl 0 1 0 xss.flatten.length) [.flat 3 1 (xss.flatten.map (D.int .i64))] := by
 refine ret_body callB91 Tryz.func91 rfl Tryz.ntmps91 rfl rfl (fun wX gX => (twp_norm [0] (sub_d rfl .nil) (blk_nil rfl) (RS (s_rd _ rfl (mv_d (.inr rfl) rfl) (TN (twp_norm [0] (sub_d rfl .nil) (blk_nil rfl) (RS (s_rd _ rfl (mv_d (.inr rfl) rfl) (TN ?_)))))))))
 refine twp_norm [0, 3] (sub_d rfl (sub_d rfl .nil)) (blk_nil rfl) (TQ (RS (s_rd _ rfl (mv_d (.inl rfl) rfl) ?_)))
 refine s_rd _ rfl (by first | exact len_d rfl sel162 rfl (by first | exact List.length_map _ | rfl) | exact len_nil rfl sel162 rfl) ?_
 refine s_rd _ rfl (mv_d (.inl rfl) rfl) (TN (twp_norm [0, 3, 9, 10, 11] (sub_d rfl (sub_d rfl (sub_d rfl (sub_d rfl (sub_d rfl .nil))))) (blk_nil rfl) (TB ?_)))
 refine twp_whileK (fun i => ([(3, .d (.int .i64 ((flatTo xss i).length : Int))), (11, .d (.int .i64 ((i : Nat) : Int)))] : Fr)) (fun i => ([] : List (Nat × Blk))) (fun i => i ≤ xss.length) (fun i => xss.length - i) [3, 11] [0, 9, 10] [] 0 (by decide) (fun i hi => absurd hi (Nat.not_lt_zero i)) (Nat.zero_le _) (sub_d rfl (sub_d rfl (sub_d rfl .nil))) rfl (by rw [flat_zero]; rfl) (blk_nil rfl) rfl ?_
 rintro i hok
 refine twp_norm [3, 11, 0, 9, 10] (sub_d rfl (sub_d rfl (sub_d rfl (sub_d rfl (sub_d rfl .nil))))) (blk_nil rfl) (RS (s_rd _ rfl (cmp_int rfl rfl rfl rfl) (TN (twp_norm [0, 3, 9, 10, 11, 12] (sub_d rfl (sub_d rfl (sub_d rfl (sub_d rfl (sub_d rfl (sub_d rfl .nil)))))) (blk_nil rfl) (TQ ?_)))))
 refine TC _ rfl (fun hlt => ?_) (fun hlt => ?_)
 ·have hlt : i < xss.length := by simpa using hlt
  obtain ⟨x, hx⟩ : ∃ x, (xss)[i]? = some x := ⟨_, List.getElem?_eq_getElem (by first | exact hlt | omega | (simp; omega))⟩
  have hs := flat_succ hx
  have hle := flat_le xss (i + 1)
  refine TS (WT (twp_norm [0, 3, 9, 10, 11] (sub_d rfl (sub_d rfl (sub_d rfl (sub_d rfl (sub_d rfl .nil))))) (blk_nil rfl) (TQ (TB (RS (s_rd _ rfl (index_sl rfl sel162 rfl rfl (idx_map hx)) (s_rd _ rfl (load_ptr rfl lay23 rfl rfl) (s_rd _ rfl (mv_d (.inr rfl) rfl) ?_))))))))
  refine TN (twp_norm [0, 3, 5, 9, 10, 11] (sub_d rfl (sub_d rfl (sub_d rfl (sub_d rfl (sub_d rfl (sub_d rfl .nil)))))) (blk_nil rfl) (RS (s_rd _ rfl (mv_d (.inl rfl) rfl) (s_rd _ rfl (mv_d (.inl rfl) rfl) ?_))))
  refine s_rd _ rfl (by first | exact len_d rfl sel23 rfl (by first | exact List.length_map _ | rfl) | exact len_nil rfl sel23 rfl) ?_
  refine s_rd _ rfl (arith_to (r := ((flatTo xss (i + 1)).length : Int)) rfl rfl rfl rfl (by rw [hs]; simp) (by omega)) ?_
  refine s_rd _ rfl (mv_d (.inr rfl) rfl) (TN (twp_norm [0, 3, 9, 10, 11] (sub_d rfl (sub_d rfl (sub_d rfl (sub_d rfl (sub_d rfl .nil))))) (blk_nil rfl) (RS (s_rd _ rfl (mv_d (.inl rfl) rfl) (s_rd _ rfl (cmp_int rfl rfl rfl rfl) (TN (twp_norm [0, 3, 9, 10, 11, 20] (sub_d rfl (sub_d rfl (sub_d rfl (sub_d rfl (sub_d rfl (sub_d rfl .nil)))))) (blk_nil rfl) ?_)))))))
  refine TC _ rfl (fun hneg => ?_) (fun hneg => ?_)
  ·exact absurd (of_decide_eq_true hneg) (by omega)
  ·refine TS (WK (WT (twp_norm [0, 3, 9, 10, 11] (sub_d rfl (sub_d rfl (sub_d rfl (sub_d rfl (sub_d rfl .nil))))) (blk_nil rfl) (TG ?_))))
   refine s_rd _ rfl (arith_ok rfl rfl rfl rfl (by first | omega | (constructor <;> omega))) ?_
   refine s_rd _ rfl (mv_d (.inl rfl) rfl) (TN (WT ?_))
   exact ⟨(i + 1), [], by decide, (fun i hi => absurd hi (Nat.not_lt_zero i)), (by omega), (by omega), rfl⟩
 ·have hge : ¬ i < xss.length := by simpa using hlt
  have hi : i = xss.length := by omega
  refine twp_exit (WX (WX (WH (WT (twp_norm [0, 3] (sub_d rfl (sub_d rfl .nil)) (blk_nil rfl) (RS (s_rd _ rfl (mv_d (.inl rfl) rfl) ?_)))))))
  refine s_callD rfl rfl rfl (slices_Concat_intGrow _ (by have := flat_le xss i; omega) (fun _ => false)) rfl rfl ?_
  refine s_rd _ rfl (mv_msl (.inr rfl) rfl) (TN (twp_norm [0, 6] (sub_d rfl (sub_msl rfl .nil)) (blk_flat rfl (blk_nil rfl)) (TQ (RS (s_rd _ rfl (mv_d (.inl rfl) rfl) ?_)))))
  refine s_rd _ rfl (by first | exact len_d rfl sel162 rfl (by first | exact List.length_map _ | rfl) | exact len_nil rfl sel162 rfl) ?_
  refine s_rd _ rfl (mv_d (.inl rfl) rfl) (TN (twp_norm [6, 25, 26, 27] (sub_msl rfl (sub_d rfl (sub_d rfl (sub_d rfl .nil)))) (blk_flat rfl (blk_nil rfl)) (TB ?_)))
  refine twp_whileK (fun i => ([(6, .msl 0 1 0 (flatTo xss i).length), (27, .d (.int .i64 ((i : Nat) : Int)))] : Fr)) (fun i => ([(0, .flat 3 1 ((flatTo xss i).map (D.int .i64)))] : List (Nat × Blk))) (fun i => i ≤ xss.length) (fun i => xss.length - i) [6, 27] [25, 26] [0] 0 (by decide) (fun i hi => absurd hi (Nat.not_lt_zero i)) (Nat.zero_le _) (sub_d rfl (sub_d rfl .nil)) rfl (by rw [flat_zero]; rfl) (blk_flat rfl (blk_nil rfl)) (by rw [flat_zero]; rfl) ?_
  rintro i hok
  refine twp_norm [6, 27, 25, 26] (sub_msl rfl (sub_d rfl (sub_d rfl (sub_d rfl .nil)))) (blk_flat rfl (blk_nil rfl)) (RS (s_rd _ rfl (cmp_int rfl rfl rfl rfl) (TN (twp_norm [6, 25, 26, 27, 28] (sub_msl rfl (sub_d rfl (sub_d rfl (sub_d rfl (sub_d rfl .nil))))) (blk_flat rfl (blk_nil rfl)) (TQ ?_)))))
  refine TC _ rfl (fun hlt => ?_) (fun hlt => ?_)
  ·have hlt : i < xss.length := by simpa using hlt
   obtain ⟨x, hx⟩ : ∃ x, (xss)[i]? = some x := ⟨_, List.getElem?_eq_getElem (by first | exact hlt | omega | (simp; omega))⟩
   have hs := flat_succ hx
   have hle := flat_le xss (i + 1)
   have hsl : (flatTo xss (i + 1)).length = (flatTo xss i).length + x.length := by rw [hs]; simp
   refine TS (WT (twp_norm [6, 25, 26, 27] (sub_msl rfl (sub_d rfl (sub_d rfl (sub_d rfl .nil)))) (blk_flat rfl (blk_nil rfl)) (TQ (TB (RS (s_rd _ rfl (index_sl rfl sel162 rfl rfl (idx_map hx)) (s_rd _ rfl (load_ptr rfl lay23 rfl rfl) (s_rd _ rfl (mv_d (.inr rfl) rfl) ?_))))))))
   refine TN (twp_norm [6, 8, 25, 26, 27] (sub_msl rfl (sub_d rfl (sub_d rfl (sub_d rfl (sub_d rfl .nil))))) (blk_flat rfl (blk_nil rfl)) (TG (s_rd _ rfl (mv_msl (.inl rfl) rfl) (s_rd _ rfl (mv_d (.inl rfl) rfl) ?_))))
   refine s_append (m := (flatTo xss (i + 1)).length) (ds := x.map (D.int .i64)) (es' := (flatTo xss (i + 1)).map (D.int .i64)) rfl sel23 zero3 rfl rfl rfl (by simp) (fun h => absurd h (Nat.not_lt_zero _)) rfl ⟨rfl, (by first | rfl | (simp [List.map_take, List.map_drop]; done) | (rw [← List.map_drop, List.take_of_length_le (by simp)]))⟩ (by rw [hs]; simp) (by simp; omega) (by omega) (by omega) rfl rfl ?_
   refine s_rd _ rfl (mv_msl (.inr rfl) rfl) (TN (WK (WT (twp_norm [6, 25, 26, 27] (sub_msl rfl (sub_d rfl (sub_d rfl (sub_d rfl .nil)))) (blk_flat rfl (blk_nil rfl)) (TG ?_)))))
   refine s_rd _ rfl (arith_ok rfl rfl rfl rfl (by first | omega | (constructor <;> omega))) ?_
   refine s_rd _ rfl (mv_d (.inl rfl) rfl) (TN (WT ?_))
   exact ⟨(i + 1), [0], by decide, (fun i hi => absurd hi (Nat.not_lt_zero i)), (by omega), (by omega), rfl⟩
  ·have hge : ¬ i < xss.length := by simpa using hlt
   have hi : i = xss.length := by omega
   have hall := flat_all hge
   refine twp_exit (WX (WX (WH (WT (twp_norm [6] (sub_msl rfl .nil) (blk_flat rfl (blk_nil rfl)) (RS (s_rd _ rfl (mv_msl (.inl rfl) rfl) (s_rd _ rfl (mv_msl (.inr rfl) rfl) ?_))))))))
   refine TN (twp_norm [2] (sub_msl rfl .nil) (blk_flat rfl (blk_nil rfl)) (TR ?_))
   rw [hall]
   exact ⟨_, [0], res rfl, by decide, fun i hi => absurd hi (Nat.not_lt_zero i), rfl, rfl⟩

theorem slices_Concat_int_c {p0 : List (List Int)} {r : List Int} (hm : slices_Concat_int p0 = some r) : RetN Tryz.prog 91 [.sl 1 (p0.map (fun l => D.sl 1 (l.map (D.int .i64))))] (.sl 1 (r.map (D.int .i64))) := by
 unfold slices_Concat_int at hm
 obtain ⟨g, hm⟩ := GI hm
 obtain rfl := OJ hm
 exact .flat (slices_Concat_intConcat p0 g.1 g.2 (fun _ => false)) (by rw [List.length_map]) (fun e he => by obtain ⟨x, _, rfl⟩ := List.mem_map.1 he; rfl)

theorem table_routeRight_c {p0 : Table} {p1 : Route} {r : Bool} (hm : table_routeRight p0 p1 = some r) : RetN Tryz.prog 119 [p0.enc, p1.enc] (.bool (r)) := by
 refine .unit (ret_bodyS callB119 Tryz.func119 rfl Tryz.ntmps119 rfl rfl (fun wX gX => ?_)) rfl
 unfold table_routeRight at hm
 refine WN [0, 1] rfl rfl (RS (s_bx 0 rfl rfl rfl (s_bx 1 rfl rfl rfl (SA TK rfl (TN (WN [2, 3] rfl rfl (TQ ?_)))))))
 refine w_joinM hm (fun x1 => ([(26, .d (.bool (x1)))] : Fr)) (fun x1 => ([] : List (Nat × Blk))) [26] [2, 3] rfl (fun z2 hm => ?_) (fun x1 hm => ?_)
 ·refine TG ?_
  iterate 4 (refine SA TK rfl ?_)
  obtain ⟨r3, hr3, hm⟩ := BI hm
  refine SX rfl rfl (RN rfl rfl (SC (.d _) (SC (.d _) SN)) (table_within_c hr3)) (SA TK rfl (SB TK rfl (fun q4 hq4 => ?_)))
  cases q4
  ·replace hm := JB hq4 hm
   refine SA TK rfl (SA TK rfl (SA TK rfl (SB TK rfl (fun q5 hq5 => ?_))))
   cases q5
   ·replace hm := iteN_F hq5 hm
    iterate 8 (refine SA TK rfl ?_)
    refine TN (WT ?_)
    exact ⟨_, [0, 1], (SJ hm), rfl, k0, rfl⟩
   ·replace hm := iteN_T hq5 hm
    iterate 4 (refine SA TK rfl ?_)
    obtain ⟨r6, hr6, hm⟩ := BI hm
    refine SX rfl rfl (RN rfl rfl (SC (.d _) (SC (.d _) SN)) (table_within_c hr6)) (SA TK rfl (SA TK rfl (SA TK rfl (TN (WT ?_)))))
    exact ⟨_, [0, 1], (SJ hm), rfl, k0, rfl⟩
  ·replace hm := JA hq4 hm
   iterate 12 (refine SA TK rfl ?_)
   refine TN (WT ?_)
   exact ⟨_, [0, 1], (SJ hm), rfl, k0, rfl⟩
 ·refine WN [2, 3, 26] rfl rfl ?_
  refine TC _ rfl (fun h7 => ?_) (fun h7 => ?_)
  ·replace hm := JA h7 hm
   refine RS (SA TK rfl (TN (WN [4] rfl rfl (TR (WR ?_)))))
   obtain rfl := OJ hm
   exact EndsS.one _ rfl (.d _) (.refl _)
  ·replace hm := JB h7 hm
   refine TS (WT (WN [2, 3] rfl rfl (TQ ?_)))
   refine w_cut [(42, .d (.bool (((decide ((p1.path.length : Int) < (1 : Int))) || ((decide ((12 : Int) < (p1.path.length : Int))) || (decide ((p1.sections.length : Int) = (0 : Int))))))))] [42] [2, 3] rfl ?_ ?_
   ·refine TG (SA TK rfl (SA TK rfl (SX rfl rfl (x_len TK rfl rfl rfl) (SA TK rfl (SB TK rfl (fun q8 hq8 => ?_))))))
    cases q8
    ·refine SA TK rfl (SA TK rfl (SX rfl rfl (x_len TK rfl rfl rfl) (SA TK rfl (SA TK rfl (SB TK rfl (fun q9 hq9 => ?_))))))
     cases q9
     ·refine SA TK rfl (SA TK rfl (SX rfl rfl (x_len TK rfl rfl rfl) (SA TK rfl (SA TK rfl (TN (WT ?_))))))
      exact ⟨[0, 1], rfl, k0, st_eq (fr_cons (av_bool (by simp [hq8, hq9])) rfl) rfl⟩
     ·iterate 5 (refine SA TK rfl ?_)
      refine TN (WT ?_)
      exact ⟨[0, 1], rfl, k0, st_eq (fr_cons (av_bool (by simp [hq8, hq9])) rfl) rfl⟩
    ·iterate 11 (refine SA TK rfl ?_)
     refine TN (WT ?_)
     exact ⟨[0, 1], rfl, k0, st_eq (fr_cons (av_bool (by simp [hq8])) rfl) rfl⟩
   ·refine WN [2, 3, 42] rfl rfl ?_
    refine TC _ rfl (fun h10 => ?_) (fun h10 => ?_)
    ·replace hm := JA h10 hm
     refine RS (SA TK rfl (TN (WN [4] rfl rfl (TR (WR ?_)))))
     obtain rfl := OJ hm
     exact EndsS.one _ rfl (.d _) (.refl _)
    ·replace hm := JB h10 hm
     refine TS (WT (WN [2, 3] rfl rfl (RS (s_ala (f := D.bool) (x := false) 2 23 rfl rfl zero175 rfl rfl rfl (TN (WN [2, 3, 5] rfl rfl ?_))))))
     refine w_joinS hm (fun b11 => ([] : Fr)) (fun b11 => ([(2, .flat 175 1 (b11.map D.bool))] : List (Nat × Blk))) [] [2, 3] rfl (fun z12 hm hz12 => ?_) (fun b11 hm => ?_)
     ·refine RS ?_
      iterate 4 (refine SA TK rfl ?_)
      refine SX rfl rfl (x_lit [.tmp 44, .tmp 46] TK rfl rfl zero23 rfl rfl rfl rfl rfl) ?_
      obtain ⟨r13, hr13, hm⟩ := BI hm
      refine SX rfl rfl (RN rfl rfl (SC (.d _) SN) (slices_Concat_int_c hr13)) (SX rfl rfl (x_len TK rfl rfl rfl) (SA TK rfl (TN (WN [2, 3, 5, 48, 49, 50] rfl rfl (TB (w_loop hm (fun (x17, b18) => ([(50, .d (.int .i64 x17))] : Fr)) (fun (x17, b18) => ([(2, .flat 175 1 (b18.map D.bool))] : List (Nat × Blk))) [50] [2, 3, 5, 48, 49] [0, 1, 2] rfl k0 rfl rfl rfl rfl rfl (fun s z19 hm hz19 => ?_)))))))
      obtain ⟨x17, b18⟩ := s
      refine WN [2, 3, 5, 48, 49, 50] rfl rfl (RS (SA TK rfl (TN (WN [2, 3, 5, 48, 49, 50, 51] rfl rfl (TQ ?_)))))
      refine TC _ rfl (fun h20 => ?_) (fun h20 => ?_)
      ·replace hm := JT h20 hm
       refine TS (WT (WN [2, 3, 5, 48, 49, 50] rfl rfl (TQ (TB (RS ?_)))))
       obtain ⟨e21, he21, hm⟩ := GV hm
       refine SX rfl rfl (x_ix TK rfl rfl rfl rfl he21) (SA TK rfl (SA TK rfl (TN (WN [2, 3, 5, 7, 48, 49, 50] rfl rfl (TQ ?_)))))
       refine w_joinM hm (fun x22 => ([(63, .d (.bool (x22)))] : Fr)) (fun x22 => ([] : List (Nat × Blk))) [63] [2, 3, 5, 7, 48, 49, 50] rfl (fun z23 hm => ?_) (fun x22 hm => ?_)
       ·refine TG (SA TK rfl (SA TK rfl (SA TK rfl ?_)))
        obtain ⟨r24, hr24, hm⟩ := BI hm
        refine SX rfl rfl (RN rfl rfl (SC (.d _) (SC (.d _) SN)) (table_within_c hr24)) (SA TK rfl (SB TK rfl (fun q25 hq25 => ?_)))
        cases q25
        ·replace hm := JB hq25 hm
         refine SA TK rfl ?_
         obtain ⟨g27, hm⟩ := GI hm
         obtain ⟨e26, he26, hm⟩ := GV hm
         refine SX rfl rfl (x_ixa rfl asel175 rfl rfl he26 g27) (SX rfl rfl (x_ldo TK rfl rfl rfl rfl he26.2 rfl) (SA TK rfl (TN (WT ?_))))
         exact ⟨_, [0, 1, 2], (SJ hm), rfl, k0, rfl⟩
        ·replace hm := JA hq25 hm
         iterate 4 (refine SA TK rfl ?_)
         refine TN (WT ?_)
         exact ⟨_, [0, 1, 2], (SJ hm), rfl, k0, rfl⟩
       ·refine WN [2, 3, 5, 7, 48, 49, 50, 63] rfl rfl ?_
        refine TC _ rfl (fun h28 => ?_) (fun h28 => ?_)
        ·replace hm := JA h28 hm
         refine RS (SA TK rfl (TN (WN [4] rfl rfl (TR (WR (WB (WR ?_)))))))
         obtain ⟨v29, hm, hz⟩ := II hm
         rw [hz19 _ hz] at hm
         refine WR (WB ?_)
         obtain ⟨v30, hm, hz⟩ := II hm
         rw [hz12 _ hz] at hm
         refine WR ?_
         obtain rfl := OJ hm
         exact EndsS.one _ rfl (.d _) (.refl _)
        ·replace hm := JB h28 hm
         refine TS (WT (WN [2, 3, 5, 7, 48, 49, 50] rfl rfl (TG (SA TK rfl ?_))))
         obtain ⟨g32, hm⟩ := GI hm
         obtain ⟨e31, he31, hm⟩ := GV hm
         refine SX rfl rfl (x_ixa rfl asel175 rfl rfl he31 g32) (s_sto (x' := true) TK rfl rfl rfl rfl rfl he31.2 rfl rfl rfl (TN (WK (WT (WN [2, 3, 5, 48, 49, 50] rfl rfl (TG ?_))))))
         obtain ⟨g33, hm⟩ := GI hm
         refine SX rfl rfl (x_ar rfl rfl rfl rfl g33) (SA TK rfl (TN (WT ?_)))
         exact ⟨_, [0, 1, 2], (SJ hm), rfl, k0, rfl⟩
      ·replace hm := JF h20 hm
       refine twp_exit (WX ?_)
       obtain ⟨v34, hm, hz⟩ := II hm
       rw [hz19 _ hz] at hm
       refine WX (WH (WT ?_))
       exact ⟨_, [0, 1, 2], (SJ hm), rfl, k0, rfl⟩
     ·refine WN [2, 3] rfl rfl ?_
      refine w_joinM hm (fun x35 => ([(4, .d (.bool (x35)))] : Fr)) (fun x35 => ([] : List (Nat × Blk))) [4] [] rfl (fun z36 hm => ?_) (fun x35 hm => ?_)
      ·refine TG ?_
       iterate 4 (refine SA TK rfl ?_)
       obtain ⟨r37, hr37, hm⟩ := BI hm
       refine SX rfl rfl (RN rfl rfl (SC (.d _) (SC (.d _) SN)) (table_within_c hr37)) (SB TK rfl (fun q38 hq38 => ?_))
       cases q38
       ·replace hm := JB hq38 hm
        iterate 5 (refine SA TK rfl ?_)
        refine TN (WT ?_)
        exact ⟨_, [0, 1, 2], (SJ hm), rfl, k0, rfl⟩
       ·replace hm := JA hq38 hm
        iterate 5 (refine SA TK rfl ?_)
        refine TN (WT ?_)
        exact ⟨_, [0, 1, 2], (SJ hm), rfl, k0, rfl⟩
      ·refine WN [4] rfl rfl (TR ?_)
       obtain rfl := OJ hm
       exact EndsS.one _ rfl (.d _) (.refl _)

theorem slices_Index_int_c {p0 : (List Int)} {p1 : Int} {r : Int} (hm : slices_Index_int p0 p1 = some r) : RetN Tryz.prog 122 [.sl 1 (p0.map (D.int .i64)), .int .i64 p1] (.int .i64 r) := by
 refine .unit (ret_bodyS callB122 Tryz.func122 rfl Tryz.ntmps122 rfl rfl (fun wX gX => ?_)) rfl
 unfold slices_Index_int at hm
 refine WN [0, 1] rfl rfl (RS (SA TK rfl (TN (WN [0, 1] rfl rfl ?_))))
 refine w_joinS hm (fun _ => ([] : Fr)) (fun _ => ([] : List (Nat × Blk))) [] [] rfl (fun z1 hm hz1 => ?_) (fun j hm => ?_)
 ·refine RS (SA TK rfl (SX rfl rfl (x_len TK rfl rfl rfl) (SA TK rfl (TN (WN [0, 1, 7, 8] rfl rfl (TB (w_loop hm (fun x3 => ([(8, .d (.int .i64 x3))] : Fr)) (fun x3 => ([] : List (Nat × Blk))) [8] [0, 1, 7] [] rfl k0 rfl rfl rfl rfl rfl (fun x3 z4 hm hz4 => (WN [0, 1, 7, 8] rfl rfl ?_)))))))))
  refine RS (SA TK rfl (TN (WN [0, 1, 7, 8, 9] rfl rfl (TQ ?_))))
  refine TC _ rfl (fun h5 => ?_) (fun h5 => ?_)
  ·replace hm := JT h5 hm
   refine TS (WT (WN [0, 1, 7, 8] rfl rfl (TQ (TB (RS (SA TK rfl (SA TK rfl (TN (WN [0, 1, 5, 7, 8] rfl rfl ?_)))))))))
   refine RS (SA TK rfl (SA TK rfl (SA TK rfl ?_)))
   obtain ⟨e6, he6, hm⟩ := GV hm
   refine SX rfl rfl (x_ix TK rfl rfl rfl rfl he6) (SA TK rfl (SA TK rfl (TN (WN [0, 1, 5, 7, 8, 16] rfl rfl ?_))))
   refine TC _ rfl (fun h7 => ?_) (fun h7 => ?_)
   ·replace hm := JT h7 hm
    refine RS (SA TK rfl (SA TK rfl (TN (WN [4] rfl rfl (TR (WB (WR ?_)))))))
    obtain ⟨v8, hm, hz⟩ := II hm
    rw [hz4 _ hz] at hm
    refine WR (WB ?_)
    obtain ⟨v9, hm, hz⟩ := II hm
    rw [hz1 _ hz] at hm
    refine WR ?_
    obtain rfl := OJ hm
    exact EndsS.one _ rfl (.d _) (.refl _)
   ·replace hm := JF h7 hm
    refine TS (WK (WT (WN [0, 1, 7, 8] rfl rfl (TG ?_))))
    obtain ⟨g10, hm⟩ := GI hm
    refine SX rfl rfl (x_ar rfl rfl rfl rfl g10) (SA TK rfl (TN (WT ?_)))
    exact ⟨_, [], (SJ hm), rfl, k0, rfl⟩
  ·replace hm := JF h5 hm
   refine twp_exit (WX ?_)
   obtain ⟨v11, hm, hz⟩ := II hm
   rw [hz4 _ hz] at hm
   refine WX (WH (WT ?_))
   exact ⟨_, [], (SJ hm), rfl, k0, rfl⟩
 ·refine WN [] rfl rfl (RS (SA TK rfl (TN (WN [4] rfl rfl (TR ?_)))))
  obtain rfl := OJ hm
  exact EndsS.one _ rfl (.d _) (.refl _)

theorem table_Index_c {p0 : Table} {p1 : Int} {r : Int} (hm : table_Index p0 p1 = some r) : RetN Tryz.prog 95 [p0.enc, .int .i64 p1] (.int .i64 r) := by
 refine .unit (ret_bodyS callB95 Tryz.func95 rfl Tryz.ntmps95 rfl rfl (fun wX gX => ?_)) rfl
 unfold table_Index at hm
 refine WN [0, 1] rfl rfl (RS (s_bx 0 rfl rfl rfl (SA TK rfl (TN (WN [1, 2] rfl rfl (RS (SA TK rfl (SA TK rfl (SA TK rfl ?_)))))))))
 obtain ⟨r1, hr1, hm⟩ := BI hm
 refine SX rfl rfl (RN rfl rfl (SC (.d _) (SC (.d _) SN)) (slices_Index_int_c hr1)) (SA TK rfl (TN (WN [4] rfl rfl (TR ?_))))
 obtain rfl := OJ hm
 exact EndsS.one _ rfl (.d _) (.refl _)

theorem table_settingsRight_c {p0 : Table} {p1 : (List Setting)} {r : Bool} (hm : table_settingsRight p0 p1 = some r) : RetN Tryz.prog 120 [p0.enc, .sl 2 (p1.map Setting.enc)] (.bool (r)) := by
 refine .unit (ret_bodyS callB120 Tryz.func120 rfl Tryz.ntmps120 rfl rfl (fun wX gX => ?_)) rfl
 unfold table_settingsRight at hm
 refine WN [0, 1] rfl rfl (RS (s_bx 0 rfl rfl rfl (SA TK rfl (TN (WN [1, 2] rfl rfl ?_)))))
 refine w_joinS hm (fun _ => ([] : Fr)) (fun _ => ([] : List (Nat × Blk))) [] [] rfl (fun z1 hm hz1 => ?_) (fun j hm => ?_)
 ·refine RS (SA TK rfl (SX rfl rfl (x_len TK rfl rfl rfl) (SA TK rfl (TN (WN [1, 2, 7, 8, 9] rfl rfl (TB (w_loop hm (fun x3 => ([(9, .d (.int .i64 x3))] : Fr)) (fun x3 => ([] : List (Nat × Blk))) [9] [1, 2, 7, 8] [0] rfl k0 rfl rfl rfl rfl rfl (fun x3 z4 hm hz4 => (WN [1, 2, 7, 8, 9] rfl rfl ?_)))))))))
  refine RS (SA TK rfl (TN (WN [1, 2, 7, 8, 9, 10] rfl rfl (TQ ?_))))
  refine TC _ rfl (fun h5 => ?_) (fun h5 => ?_)
  ·replace hm := JT h5 hm
   refine TS (WT (WN [1, 2, 7, 8, 9] rfl rfl (TQ (TB (RS (SA TK rfl ?_))))))
   obtain ⟨e6, he6, hm⟩ := GV hm
   refine SX rfl rfl (x_ix TK rfl rfl rfl rfl he6) (SA TK rfl (s_al 1 rfl rfl zero133 rfl (SA TK rfl (SA TK rfl (TN (WN [1, 2, 5, 6, 7, 8, 9] rfl rfl (TQ ?_)))))))
   refine w_joinM hm (fun x7 => ([(33, .d (.bool (x7)))] : Fr)) (fun x7 => ([] : List (Nat × Blk))) [33] [1, 2, 6, 7, 8, 9] rfl (fun z8 hm => ?_) (fun x7 hm => ?_)
   ·refine twp_draw follows  ?_
    iterate 2 (refine DA [0, 1] TK rfl ?_)
    refine d_b [0, 1] TK rfl (fun q9 hq9 => ?_)
    cases q9
    ·replace hm := JF hq9 hm
     iterate 14 (refine DA [0, 1] TK rfl ?_)
     obtain ⟨r10, hr10, hm⟩ := BI hm
     refine DX [0, 1] rfl rfl (RN rfl rfl (SC (.d _) (SC (.d _) SN)) (table_Index_c hr10)) ?_
     iterate 2 (refine DA [0, 1] TK rfl ?_)
     refine DT ?_ (by kernel_rfl)
     refine TN (WT ?_)
     exact ⟨_, [0, 1], (SJ hm), rfl, k0, rfl⟩
    ·replace hm := JT hq9 hm
     iterate 4 (refine DA [0, 1] TK rfl ?_)
     obtain ⟨g11, hm⟩ := GI hm
     refine DX [0, 1] rfl rfl (x_ar rfl rfl rfl rfl g11) ?_
     obtain ⟨e12, he12, hm⟩ := GV hm
     refine DX [0, 1] rfl rfl (x_ix TK rfl rfl rfl rfl he12) ?_
     iterate 4 (refine DA [0, 1] TK rfl ?_)
     refine d_b [0, 1] TK rfl (fun q13 hq13 => ?_)
     cases q13
     ·replace hm := JF hq13 hm
      iterate 3 (refine DA [0, 1] TK rfl ?_)
      obtain ⟨r14, hr14, hm⟩ := BI hm
      refine DX [0, 1] rfl rfl (RN rfl rfl (SC (.d _) (SC (.d _) SN)) (table_Index_c hr14)) ?_
      iterate 2 (refine DA [0, 1] TK rfl ?_)
      refine DT ?_ (by kernel_rfl)
      refine TN (WT ?_)
      exact ⟨_, [0, 1], (SJ hm), rfl, k0, rfl⟩
     ·replace hm := JT hq13 hm
      iterate 6 (refine DA [0, 1] TK rfl ?_)
      refine DT ?_ (by kernel_rfl)
      refine TN (WT ?_)
      exact ⟨_, [0, 1], (SJ hm), rfl, k0, rfl⟩
   ·refine WN [1, 2, 6, 7, 8, 9, 33] rfl rfl ?_
    refine TC _ rfl (fun h15 => ?_) (fun h15 => ?_)
    ·replace hm := JA h15 hm
     refine RS (SA TK rfl (TN (WN [4] rfl rfl (TR (WR (WB (WR ?_)))))))
     obtain ⟨v16, hm, hz⟩ := II hm
     rw [hz4 _ hz] at hm
     refine WR (WB ?_)
     obtain ⟨v17, hm, hz⟩ := II hm
     rw [hz1 _ hz] at hm
     refine WR ?_
     obtain rfl := OJ hm
     exact EndsS.one _ rfl (.d _) (.refl _)
    ·replace hm := JB h15 hm
     refine TS (WT (WN [1, 2, 6, 7, 8, 9] rfl rfl ?_))
     refine w_cut [(41, .d (.bool (((!(decide (e6.pos = (1 : Int)))) && (!(decide (e6.pos = (2 : Int))))))))] [41] [1, 2, 7, 8, 9] rfl ?_ ?_
     ·refine TG (SA TK rfl (SA TK rfl (SA TK rfl (SB TK rfl (fun q18 hq18 => ?_)))))
      cases q18
      ·iterate 4 (refine SA TK rfl ?_)
       refine TN (WT ?_)
       exact ⟨[0, 1], rfl, k0, st_eq (fr_cons (av_bool (by simp [hq18])) rfl) rfl⟩
      ·iterate 4 (refine SA TK rfl ?_)
       refine TN (WT ?_)
       exact ⟨[0, 1], rfl, k0, st_eq (fr_cons (av_bool (by simp [hq18])) rfl) rfl⟩
     ·refine WN [1, 2, 7, 8, 9, 41] rfl rfl ?_
      refine TC _ rfl (fun h19 => ?_) (fun h19 => ?_)
      ·replace hm := JA h19 hm
       refine RS (SA TK rfl (TN (WN [4] rfl rfl (TR (WB (WR ?_))))))
       obtain ⟨v20, hm, hz⟩ := II hm
       rw [hz4 _ hz] at hm
       refine WR (WB ?_)
       obtain ⟨v21, hm, hz⟩ := II hm
       rw [hz1 _ hz] at hm
       refine WR ?_
       obtain rfl := OJ hm
       exact EndsS.one _ rfl (.d _) (.refl _)
      ·replace hm := JB h19 hm
       refine TS (WK (WT (WN [1, 2, 7, 8, 9] rfl rfl (TG ?_))))
       obtain ⟨g22, hm⟩ := GI hm
       refine SX rfl rfl (x_ar rfl rfl rfl rfl g22) (SA TK rfl (TN (WT ?_)))
       exact ⟨_, [0], (SJ hm), rfl, k0, rfl⟩
  ·replace hm := JF h5 hm
   refine twp_exit (WX ?_)
   obtain ⟨v23, hm, hz⟩ := II hm
   rw [hz4 _ hz] at hm
   refine WX (WH (WT ?_))
   exact ⟨_, [0], (SJ hm), rfl, k0, rfl⟩
 ·refine WN [] rfl rfl (RS (SA TK rfl (TN (WN [4] rfl rfl (TR ?_)))))
  obtain rfl := OJ hm
  exact EndsS.one _ rfl (.d _) (.refl _)

theorem conflict_Agree_c {p0 : (List Setting)} {p1 : (List Setting)} {r : Bool} (hm : conflict_Agree p0 p1 = some r) : RetN Tryz.prog 121 [.sl 2 (p0.map Setting.enc), .sl 2 (p1.map Setting.enc)] (.bool (r)) := by
 refine .unit (ret_bodyS callB121 Tryz.func121 rfl Tryz.ntmps121 rfl rfl (fun wX gX => ?_)) rfl
 unfold conflict_Agree at hm
 refine WN [0, 1] rfl rfl (RS (SA TK rfl (TN (WN [0, 1] rfl rfl ?_))))
 refine w_joinS hm (fun _ => ([] : Fr)) (fun _ => ([] : List (Nat × Blk))) [] [] rfl (fun z1 hm hz1 => ?_) (fun j hm => ?_)
 ·refine RS (SA TK rfl (SX rfl rfl (x_len TK rfl rfl rfl) (SA TK rfl (TN (WN [1, 9, 10, 11] rfl rfl (TB (w_loop hm (fun x3 => ([(11, .d (.int .i64 x3))] : Fr)) (fun x3 => ([] : List (Nat × Blk))) [11] [1, 9, 10] [] rfl k0 rfl rfl rfl rfl rfl (fun x3 z4 hm hz4 => (WN [1, 9, 10, 11] rfl rfl ?_)))))))))
  refine RS (SA TK rfl (TN (WN [1, 9, 10, 11, 12] rfl rfl (TQ ?_))))
  refine TC _ rfl (fun h5 => ?_) (fun h5 => ?_)
  ·replace hm := JT h5 hm
   refine TS (WT (WN [1, 9, 10, 11] rfl rfl ?_))
   refine w_joinS hm (fun _ => ([] : Fr)) (fun _ => ([] : List (Nat × Blk))) [] [1, 9, 10, 11] rfl (fun z6 hm hz6 => ?_) (fun j hm => ?_)
   ·refine TB (RS ?_)
    obtain ⟨e7, he7, hm⟩ := GV hm
    refine SX rfl rfl (x_ix TK rfl rfl rfl rfl he7) (SA TK rfl (s_al 0 rfl rfl zero133 rfl (SA TK rfl (TN (WN [1, 6, 9, 10, 11] rfl rfl (RS (SA TK rfl (SX rfl rfl (x_len TK rfl rfl rfl) ?_))))))))
    refine SA TK rfl (TN (WN [1, 6, 9, 10, 11, 15, 16, 17] rfl rfl (TB (w_loop hm (fun x9 => ([(17, .d (.int .i64 x9))] : Fr)) (fun x9 => ([] : List (Nat × Blk))) [17] [1, 6, 9, 10, 11, 15, 16] [0] rfl k0 rfl rfl rfl rfl rfl (fun x9 z10 hm hz10 => (WN [1, 6, 9, 10, 11, 15, 16, 17] rfl rfl (RS (SA TK rfl (TN ?_)))))))))
    refine WN [1, 6, 9, 10, 11, 15, 16, 17, 18] rfl rfl (TQ ?_)
    refine TC _ rfl (fun h11 => ?_) (fun h11 => ?_)
    ·replace hm := JT h11 hm
     refine TS (WT (WN [1, 6, 9, 10, 11, 15, 16, 17] rfl rfl (TQ (TB (RS ?_)))))
     obtain ⟨e12, he12, hm⟩ := GV hm
     refine SX rfl rfl (x_ix TK rfl rfl rfl rfl he12) (SA TK rfl (s_al 1 rfl rfl zero133 rfl (SA TK rfl (TN (WN [1, 6, 8, 9, 10, 11, 15, 16, 17] rfl rfl ?_)))))
     refine w_cut [(32, .d (.bool (((decide (e7.el = e12.el)) && (!(decide (e7.pos = e12.pos)))))))] [32] [1, 6, 9, 10, 11, 15, 16, 17] rfl ?_ ?_
     ·refine TG ?_
      iterate 5 (refine SA TK rfl ?_)
      refine SB TK rfl (fun q13 hq13 => ?_)
      cases q13
      ·iterate 6 (refine SA TK rfl ?_)
       refine TN (WT ?_)
       exact ⟨[0, 1], rfl, k0, st_eq (fr_cons (av_bool (by simp [hq13])) rfl) rfl⟩
      ·iterate 6 (refine SA TK rfl ?_)
       refine TN (WT ?_)
       exact ⟨[0, 1], rfl, k0, st_eq (fr_cons (av_bool (by simp [hq13])) rfl) rfl⟩
     ·refine WN [1, 6, 9, 10, 11, 15, 16, 17, 32] rfl rfl ?_
      refine TC _ rfl (fun h14 => ?_) (fun h14 => ?_)
      ·replace hm := JA h14 hm
       refine RS (SA TK rfl (TN (WN [4] rfl rfl (TR (WB (WR ?_))))))
       obtain ⟨v15, hm, hz⟩ := II hm
       rw [hz10 _ hz] at hm
       refine WR (WB (WB ?_))
       obtain ⟨v16, hm, hz⟩ := II hm
       rw [hz6 _ hz] at hm
       refine WR ?_
       obtain ⟨v17, hm, hz⟩ := II hm
       rw [hz4 _ hz] at hm
       refine WR (WB ?_)
       obtain ⟨v18, hm, hz⟩ := II hm
       rw [hz1 _ hz] at hm
       refine WR ?_
       obtain rfl := OJ hm
       exact EndsS.one _ rfl (.d _) (.refl _)
      ·replace hm := JB h14 hm
       refine TS (WK (WT (WN [1, 6, 9, 10, 11, 15, 16, 17] rfl rfl (TG ?_))))
       obtain ⟨g19, hm⟩ := GI hm
       refine SX rfl rfl (x_ar rfl rfl rfl rfl g19) (SA TK rfl (TN (WT ?_)))
       exact ⟨_, [0], (SJ hm), rfl, k0, rfl⟩
    ·replace hm := JF h11 hm
     refine twp_exit (WX ?_)
     obtain ⟨v20, hm, hz⟩ := II hm
     rw [hz10 _ hz] at hm
     refine WX (WH (WK (WT ?_)))
     exact ⟨_, [], (SJ hm), rfl, k0, rfl⟩
   ·refine WN [1, 9, 10, 11] rfl rfl (TG ?_)
    obtain ⟨g21, hm⟩ := GI hm
    refine SX rfl rfl (x_ar rfl rfl rfl rfl g21) (SA TK rfl (TN (WT ?_)))
    exact ⟨_, [], (SJ hm), rfl, k0, rfl⟩
  ·replace hm := JF h5 hm
   refine twp_exit (WX ?_)
   obtain ⟨v22, hm, hz⟩ := II hm
   rw [hz4 _ hz] at hm
   refine WX (WH (WT ?_))
   exact ⟨_, [], (SJ hm), rfl, k0, rfl⟩
 ·refine WN [] rfl rfl (RS (SA TK rfl (TN (WN [4] rfl rfl (TR ?_)))))
  obtain rfl := OJ hm
  exact EndsS.one _ rfl (.d _) (.refl _)

theorem table_Check_c {p0 : Table} {r : Int} (hm : table_Check p0 = some r) : RetN Tryz.prog 54 [p0.enc] (.int .i64 r) := by
 refine .unit (ret_bodyS callB54 Tryz.func54 rfl Tryz.ntmps54 rfl rfl (fun wX gX => ?_)) rfl
 unfold table_Check at hm
 refine WN [0] rfl rfl (RS (s_bx 0 rfl rfl rfl (SA TK rfl (TN (WN [1] rfl rfl (TQ ?_))))))
 refine w_joinM hm (fun x1 => ([(33, .d (.bool (x1)))] : Fr)) (fun x1 => ([] : List (Nat × Blk))) [33] [1] rfl (fun z2 hm => ?_) (fun x1 hm => ?_)
 ·refine TG (SA TK rfl (SA TK rfl (SX rfl rfl (x_len TK rfl rfl rfl) (SA TK rfl (SB TK rfl (fun q3 hq3 => ?_))))))
  cases q3
  ·replace hm := JF hq3 hm
   refine SA TK rfl (SA TK rfl (SX rfl rfl (x_len TK rfl rfl rfl) (SA TK rfl (SA TK rfl (SB TK rfl (fun q4 hq4 => ?_))))))
   cases q4
   ·replace hm := JF hq4 hm
    refine SA TK rfl (SA TK rfl ?_)
    obtain ⟨r5, hr5, hm⟩ := BI hm
    refine SX rfl rfl (RN rfl rfl (SC (.d _) (SC (.d _) SN)) (table_within_c hr5)) (SA TK rfl (SA TK rfl (SB TK rfl (fun q6 hq6 => ?_))))
    cases q6
    ·replace hm := JB hq6 hm
     refine SA TK rfl (SA TK rfl ?_)
     obtain ⟨r7, hr7, hm⟩ := BI hm
     refine SX rfl rfl (RN rfl rfl (SC (.d _) (SC (.d _) SN)) (table_within_c hr7)) (SA TK rfl (SA TK rfl (TN (WT ?_))))
     exact ⟨_, [0], (SJ hm), rfl, k0, rfl⟩
    ·replace hm := JA hq6 hm
     iterate 5 (refine SA TK rfl ?_)
     refine TN (WT ?_)
     exact ⟨_, [0], (SJ hm), rfl, k0, rfl⟩
   ·replace hm := JT hq4 hm
    iterate 11 (refine SA TK rfl ?_)
    refine TN (WT ?_)
    exact ⟨_, [0], (SJ hm), rfl, k0, rfl⟩
  ·replace hm := JT hq3 hm
   iterate 17 (refine SA TK rfl ?_)
   refine TN (WT ?_)
   exact ⟨_, [0], (SJ hm), rfl, k0, rfl⟩
 ·refine WN [1, 33] rfl rfl ?_
  refine TC _ rfl (fun h8 => ?_) (fun h8 => ?_)
  ·replace hm := JA h8 hm
   refine RS (SA TK rfl (TN (WN [2] rfl rfl (TR (WR ?_)))))
   obtain rfl := OJ hm
   exact EndsS.one _ rfl (.d _) (.refl _)
  ·replace hm := JB h8 hm
   refine TS (WT (WN [1] rfl rfl (TQ (RS (SA TK rfl ?_)))))
   obtain ⟨r9, hr9, hm⟩ := BI hm
   refine SX rfl rfl (RN rfl rfl (SC (.d _) SN) (table_pointsRight_c hr9)) (SA TK rfl (TN (WN [1, 36] rfl rfl ?_)))
   refine TC _ rfl (fun h10 => ?_) (fun h10 => ?_)
   ·replace hm := JA h10 hm
    refine RS (SA TK rfl (TN (WN [2] rfl rfl (TR (WR ?_)))))
    obtain rfl := OJ hm
    exact EndsS.one _ rfl (.d _) (.refl _)
   ·replace hm := JB h10 hm
    refine TS (WT (WN [1] rfl rfl ?_))
    refine w_joinS hm (fun _ => ([] : Fr)) (fun _ => ([] : List (Nat × Blk))) [] [1] rfl (fun z11 hm hz11 => ?_) (fun j hm => ?_)
    ·refine RS (SA TK rfl (SA TK rfl (SX rfl rfl (x_len TK rfl rfl rfl) (SA TK rfl (TN (WN [1, 38, 39, 40] rfl rfl (TB (w_loop hm (fun x13 => ([(40, .d (.int .i64 x13))] : Fr)) (fun x13 => ([] : List (Nat × Blk))) [40] [1, 38, 39] [0] rfl k0 rfl rfl rfl rfl rfl (fun x13 z14 hm hz14 => (WN [1, 38, 39, 40] rfl rfl ?_))))))))))
     refine RS (SA TK rfl (TN (WN [1, 38, 39, 40, 41] rfl rfl (TQ ?_))))
     refine TC _ rfl (fun h15 => ?_) (fun h15 => ?_)
     ·replace hm := JT h15 hm
      refine TS (WT (WN [1, 38, 39, 40] rfl rfl (TQ (TB (RS ?_)))))
      obtain ⟨e16, he16, hm⟩ := GV hm
      refine SX rfl rfl (x_ix TK rfl rfl rfl rfl he16) (SA TK rfl (s_al 1 rfl rfl zero74 rfl (s_wkb 1 [none, none, none, some 3, some 2, some 1, none, none, some 3, some 2, some 1, some 2, some 1, some 2] rfl rfl (SA TK rfl (TN (WN [1, 4, 38, 39, 40] rfl rfl (RS (SA TK rfl (SA TK rfl ?_)))))))))
      obtain ⟨r17, hr17, hm⟩ := BI hm
      refine SX rfl rfl (RN rfl rfl (SC (.d _) (SC (.d _) SN)) (table_routeRight_c hr17)) (SA TK rfl (TN (WN [1, 38, 39, 40, 47] rfl rfl ?_)))
      refine TC _ rfl (fun h18 => ?_) (fun h18 => ?_)
      ·replace hm := JA h18 hm
       refine RS (SA TK rfl (TN (WN [2] rfl rfl (TR (WB (WR ?_))))))
       obtain ⟨v19, hm, hz⟩ := II hm
       rw [hz14 _ hz] at hm
       refine WR (WB ?_)
       obtain ⟨v20, hm, hz⟩ := II hm
       rw [hz11 _ hz] at hm
       refine WR ?_
       obtain rfl := OJ hm
       exact EndsS.one _ rfl (.d _) (.refl _)
      ·replace hm := JB h18 hm
       refine TS (WK (WT (WN [1, 38, 39, 40] rfl rfl (TG ?_))))
       obtain ⟨g21, hm⟩ := GI hm
       refine SX rfl rfl (x_ar rfl rfl rfl rfl g21) (SA TK rfl (TN (WT ?_)))
       exact ⟨_, [0], (SJ hm), rfl, k0, rfl⟩
     ·replace hm := JF h15 hm
      refine twp_exit (WX ?_)
      obtain ⟨v22, hm, hz⟩ := II hm
      rw [hz14 _ hz] at hm
      refine WX (WH (WT ?_))
      exact ⟨_, [0], (SJ hm), rfl, k0, rfl⟩
    ·refine WN [1] rfl rfl ?_
     refine w_joinS hm (fun _ => ([] : Fr)) (fun _ => ([] : List (Nat × Blk))) [] [1] rfl (fun z23 hm hz23 => ?_) (fun j hm => ?_)
     ·refine RS (SA TK rfl (SA TK rfl (SX rfl rfl (x_len TK rfl rfl rfl) (SA TK rfl (TN (WN [1, 50, 51, 52] rfl rfl (TB (w_loop hm (fun x25 => ([(52, .d (.int .i64 x25))] : Fr)) (fun x25 => ([] : List (Nat × Blk))) [52] [1, 50, 51] [0] rfl k0 rfl rfl rfl rfl rfl (fun x25 z26 hm hz26 => (WN [1, 50, 51, 52] rfl rfl ?_))))))))))
      refine RS (SA TK rfl (TN (WN [1, 50, 51, 52, 53] rfl rfl (TQ ?_))))
      refine TC _ rfl (fun h27 => ?_) (fun h27 => ?_)
      ·replace hm := JT h27 hm
       refine TS (WT (WN [1, 50, 51, 52] rfl rfl (TQ (TB (RS ?_)))))
       obtain ⟨e28, he28, hm⟩ := GV hm
       refine SX rfl rfl (x_ix TK rfl rfl rfl rfl he28) (SA TK rfl (s_al 1 rfl rfl zero74 rfl (s_wkb 1 [none, none, none, some 3, some 2, some 1, none, none, some 3, some 2, some 1, some 2, some 1, some 2] rfl rfl (SA TK rfl (TN (WN [1, 6, 50, 51, 52] rfl rfl ?_))))))
       refine w_joinM hm (fun x29 => ([(74, .d (.bool (x29)))] : Fr)) (fun x29 => ([] : List (Nat × Blk))) [74] [1, 50, 51, 52] rfl (fun z30 hm => ?_) (fun x29 hm => ?_)
       ·refine TG (SA TK rfl (SA TK rfl (SA TK rfl ?_)))
        obtain ⟨r31, hr31, hm⟩ := BI hm
        refine SX rfl rfl (RN rfl rfl (SC (.d _) (SC (.d _) SN)) (table_settingsRight_c hr31)) (SA TK rfl (SB TK rfl (fun q32 hq32 => ?_)))
        cases q32
        ·replace hm := JB hq32 hm
         refine SA TK rfl (SA TK rfl (SA TK rfl ?_))
         obtain ⟨r33, hr33, hm⟩ := BI hm
         refine SX rfl rfl (RN rfl rfl (SC (.d _) (SC (.d _) SN)) (table_settingsRight_c hr33)) (SA TK rfl (SA TK rfl (SB TK rfl (fun q34 hq34 => ?_))))
         cases q34
         ·replace hm := JB hq34 hm
          refine SA TK rfl (SA TK rfl (SA TK rfl ?_))
          obtain ⟨r35, hr35, hm⟩ := BI hm
          refine SX rfl rfl (RN rfl rfl (SC (.d _) (SC (.d _) SN)) (table_settingsRight_c hr35)) (SA TK rfl (SA TK rfl (TN (WT ?_))))
          exact ⟨_, [0, 1], (SJ hm), rfl, k0, rfl⟩
         ·replace hm := JA hq34 hm
          iterate 6 (refine SA TK rfl ?_)
          refine TN (WT ?_)
          exact ⟨_, [0, 1], (SJ hm), rfl, k0, rfl⟩
        ·replace hm := JA hq32 hm
         iterate 13 (refine SA TK rfl ?_)
         refine TN (WT ?_)
         exact ⟨_, [0, 1], (SJ hm), rfl, k0, rfl⟩
       ·refine WN [1, 50, 51, 52, 74] rfl rfl ?_
        refine TC _ rfl (fun h36 => ?_) (fun h36 => ?_)
        ·replace hm := JA h36 hm
         refine RS (SA TK rfl (TN (WN [2] rfl rfl (TR (WB (WR ?_))))))
         obtain ⟨v37, hm, hz⟩ := II hm
         rw [hz26 _ hz] at hm
         refine WR (WB ?_)
         obtain ⟨v38, hm, hz⟩ := II hm
         rw [hz23 _ hz] at hm
         refine WR ?_
         obtain rfl := OJ hm
         exact EndsS.one _ rfl (.d _) (.refl _)
        ·replace hm := JB h36 hm
         refine TS (WK (WT (WN [1, 50, 51, 52] rfl rfl (TG ?_))))
         obtain ⟨g39, hm⟩ := GI hm
         refine SX rfl rfl (x_ar rfl rfl rfl rfl g39) (SA TK rfl (TN (WT ?_)))
         exact ⟨_, [0], (SJ hm), rfl, k0, rfl⟩
      ·replace hm := JF h27 hm
       refine twp_exit (WX ?_)
       obtain ⟨v40, hm, hz⟩ := II hm
       rw [hz26 _ hz] at hm
       refine WX (WH (WT ?_))
       exact ⟨_, [0], (SJ hm), rfl, k0, rfl⟩
     ·refine WN [1] rfl rfl ?_
      refine w_joinS hm (fun _ => ([] : Fr)) (fun _ => ([] : List (Nat × Blk))) [] [1] rfl (fun z41 hm hz41 => ?_) (fun j hm => ?_)
      ·refine RS (SA TK rfl (SA TK rfl (SX rfl rfl (x_len TK rfl rfl rfl) (SA TK rfl (TN (WN [1, 77, 78, 79] rfl rfl (TB (w_loop hm (fun x43 => ([(79, .d (.int .i64 x43))] : Fr)) (fun x43 => ([] : List (Nat × Blk))) [79] [1, 77, 78] [0] rfl k0 rfl rfl rfl rfl rfl (fun x43 z44 hm hz44 => (WN [1, 77, 78, 79] rfl rfl ?_))))))))))
       refine RS (SA TK rfl (TN (WN [1, 77, 78, 79, 80] rfl rfl (TQ ?_))))
       refine TC _ rfl (fun h45 => ?_) (fun h45 => ?_)
       ·replace hm := JT h45 hm
        refine TS (WT (WN [1, 77, 78, 79] rfl rfl (TQ (TB (RS ?_)))))
        obtain ⟨e46, he46, hm⟩ := GV hm
        refine SX rfl rfl (x_ix TK rfl rfl rfl rfl he46) (SA TK rfl (s_al 1 rfl rfl zero74 rfl (s_wkb 1 [none, none, none, some 3, some 2, some 1, none, none, some 3, some 2, some 1, some 2, some 1, some 2] rfl rfl (SA TK rfl (TN (WN [1, 8, 77, 78, 79] rfl rfl ?_))))))
        refine w_joinM hm (fun x47 => ([(104, .d (.bool (x47)))] : Fr)) (fun x47 => ([] : List (Nat × Blk))) [104] [1, 77, 78, 79] rfl (fun z48 hm => ?_) (fun x47 hm => ?_)
        ·refine TG ?_
         iterate 4 (refine SA TK rfl ?_)
         obtain ⟨r49, hr49, hm⟩ := BI hm
         refine SX rfl rfl (RN rfl rfl (SC (.d _) (SC (.d _) SN)) (conflict_Agree_c hr49)) (SA TK rfl (SB TK rfl (fun q50 hq50 => ?_)))
         cases q50
         ·replace hm := JB hq50 hm
          iterate 4 (refine SA TK rfl ?_)
          obtain ⟨r51, hr51, hm⟩ := BI hm
          refine SX rfl rfl (RN rfl rfl (SC (.d _) (SC (.d _) SN)) (conflict_Agree_c hr51)) (SA TK rfl (SA TK rfl (SB TK rfl (fun q52 hq52 => ?_))))
          cases q52
          ·replace hm := JB hq52 hm
           iterate 4 (refine SA TK rfl ?_)
           obtain ⟨r53, hr53, hm⟩ := BI hm
           refine SX rfl rfl (RN rfl rfl (SC (.d _) (SC (.d _) SN)) (conflict_Agree_c hr53)) (SA TK rfl (SA TK rfl (TN (WT ?_))))
           exact ⟨_, [0, 1], (SJ hm), rfl, k0, rfl⟩
          ·replace hm := JA hq52 hm
           iterate 7 (refine SA TK rfl ?_)
           refine TN (WT ?_)
           exact ⟨_, [0, 1], (SJ hm), rfl, k0, rfl⟩
         ·replace hm := JA hq50 hm
          iterate 15 (refine SA TK rfl ?_)
          refine TN (WT ?_)
          exact ⟨_, [0, 1], (SJ hm), rfl, k0, rfl⟩
        ·refine WN [1, 77, 78, 79, 104] rfl rfl ?_
         refine TC _ rfl (fun h54 => ?_) (fun h54 => ?_)
         ·replace hm := JA h54 hm
          refine RS (SA TK rfl (TN (WN [2] rfl rfl (TR (WB (WR ?_))))))
          obtain ⟨v55, hm, hz⟩ := II hm
          rw [hz44 _ hz] at hm
          refine WR (WB ?_)
          obtain ⟨v56, hm, hz⟩ := II hm
          rw [hz41 _ hz] at hm
          refine WR ?_
          obtain rfl := OJ hm
          exact EndsS.one _ rfl (.d _) (.refl _)
         ·replace hm := JB h54 hm
          refine TS (WK (WT (WN [1, 77, 78, 79] rfl rfl (TG ?_))))
          obtain ⟨g57, hm⟩ := GI hm
          refine SX rfl rfl (x_ar rfl rfl rfl rfl g57) (SA TK rfl (TN (WT ?_)))
          exact ⟨_, [0], (SJ hm), rfl, k0, rfl⟩
       ·replace hm := JF h45 hm
        refine twp_exit (WX ?_)
        obtain ⟨v58, hm, hz⟩ := II hm
        rw [hz44 _ hz] at hm
        refine WX (WH (WT ?_))
        exact ⟨_, [0], (SJ hm), rfl, k0, rfl⟩
      ·refine WN [1] rfl rfl (RS (s_makeMap 9 4 rfl (s_eq 106 (.mmap 1) rfl rfl (SA TK rfl (TN (WN [1, 9] rfl rfl ?_))))))
       refine w_joinS hm (fun m59 => ([] : Fr)) (fun m59 => ([(1, .map 9 4 (pairMap D.str D.bool m59))] : List (Nat × Blk))) [] [] rfl (fun z60 hm hz60 => ?_) (fun m59 hm => ?_)
       ·refine RS (SA TK rfl (SA TK rfl (SX rfl rfl (x_len TK rfl rfl rfl) (SA TK rfl (TN (WN [9, 108, 109, 110] rfl rfl (TB (w_loop hm (fun (x64, b65) => ([(110, .d (.int .i64 x64))] : Fr)) (fun (x64, b65) => ([(1, .map 9 4 (pairMap D.str D.bool b65))] : List (Nat × Blk))) [110] [9, 108, 109] [0, 1] rfl k0 rfl rfl rfl rfl rfl (fun s z66 hm hz66 => ?_)))))))))
        obtain ⟨x64, b65⟩ := s
        refine WN [9, 108, 109, 110] rfl rfl (RS (SA TK rfl (TN (WN [9, 108, 109, 110, 111] rfl rfl (TQ ?_)))))
        refine TC _ rfl (fun h67 => ?_) (fun h67 => ?_)
        ·replace hm := JT h67 hm
         refine TS (WT (WN [9, 108, 109, 110] rfl rfl (TQ (TB (RS ?_)))))
         obtain ⟨e68, he68, hm⟩ := GV hm
         refine SX rfl rfl (x_ix TK rfl rfl rfl rfl he68) (SA TK rfl (s_al 2 rfl rfl zero74 rfl (s_wkb 2 [none, none, none, some 3, some 2, some 1, none, none, some 3, some 2, some 1, some 2, some 1, some 2] rfl rfl (SA TK rfl (TN (WN [9, 11, 108, 109, 110] rfl rfl (TQ (RS ?_))))))))
         refine SA TK rfl (SA TK rfl (SA TK rfl ?_))
         obtain ⟨g69, hm⟩ := GI hm
         refine SX rfl rfl (x_look0 keyF_str D.bool _ _ false rfl mty142 zero4 rfl rfl rfl rfl g69) (TN (WN [9, 11, 108, 109, 110, 117] rfl rfl ?_))
         refine TC _ rfl (fun h70 => ?_) (fun h70 => ?_)
         ·replace hm := JA h70 hm
          refine RS (SA TK rfl (TN (WN [2] rfl rfl (TR (WR (WB (WR ?_)))))))
          obtain ⟨v71, hm, hz⟩ := II hm
          rw [hz66 _ hz] at hm
          refine WR (WB ?_)
          obtain ⟨v72, hm, hz⟩ := II hm
          rw [hz60 _ hz] at hm
          refine WR ?_
          obtain rfl := OJ hm
          exact EndsS.one _ rfl (.d _) (.refl _)
         ·replace hm := JB h70 hm
          refine TS (WT (WN [9, 11, 108, 109, 110] rfl rfl (TG (SA TK rfl (SA TK rfl (SA TK rfl ?_))))))
          obtain ⟨g73, hm⟩ := GI hm
          refine s_putE keyF_str D.bool mty142 rfl rfl rfl rfl g73 (TN (WK (WT (WN [9, 108, 109, 110] rfl rfl (TG ?_)))))
          obtain ⟨g74, hm⟩ := GI hm
          refine SX rfl rfl (x_ar rfl rfl rfl rfl g74) (SA TK rfl (TN (WT ?_)))
          exact ⟨_, [0, 1], (SJ hm), rfl, k0, rfl⟩
        ·replace hm := JF h67 hm
         refine twp_exit (WX ?_)
         obtain ⟨v75, hm, hz⟩ := II hm
         rw [hz66 _ hz] at hm
         refine WX (WH (WT ?_))
         exact ⟨_, [0, 1], (SJ hm), rfl, k0, rfl⟩
       ·refine WN [] rfl rfl (RS (SA TK rfl (TN (WN [2] rfl rfl (TR ?_)))))
        obtain rfl := OJ hm
        exact EndsS.one _ rfl (.d _) (.refl _)

end Go.Proofs.YtcagmechagiclaaGreatDoor

set_option maxHeartbeats 8000000
set_option linter.unusedSimpArgs false
set_option linter.unusedVariables false
set_option maxRecDepth 20000
namespace Go.Proofs.YtcagmechagiclaaGreatDoor
open Go Go.TL

theorem compile_numbering_last_c {p0 : Numbering} {p1 : Int} {r : Int} (hm : compile_numbering_last p0 p1 = some r) : RetN Tryz.prog 77 [p0.enc, .int .i64 p1] (.int .i64 r) := by
 refine .unit (ret_bodyS callB77 Tryz.func77 rfl Tryz.ntmps77 rfl rfl (fun wX gX => ?_)) rfl
 unfold compile_numbering_last at hm
 refine WN [0, 1] rfl rfl (RS (s_bx 0 rfl rfl rfl (SA TK rfl (TN (WN [1, 2] rfl rfl (RS ?_))))))
 iterate 4 (refine SA TK rfl ?_)
 obtain ⟨e1, he1, hm⟩ := GV hm
 refine SX rfl rfl (x_ix TK rfl rfl rfl rfl he1) (SA TK rfl (SA TK rfl (SX rfl rfl (x_len TK rfl rfl rfl) ?_)))
 obtain ⟨g2, hm⟩ := GI hm
 refine SX rfl rfl (x_ar rfl rfl rfl rfl g2) (SA TK rfl (TN (WN [4] rfl rfl (TR ?_))))
 obtain rfl := OJ hm
 exact EndsS.one _ rfl (.d _) (.refl _)

theorem compile_number_c {p0 : Table} {r0 : Numbering} {r1 : Int} (hm : compile_number p0 = some (r0, r1)) : RetT Tryz.prog 30 [p0.enc] [r0.enc, .int .i64 r1] := by
 refine .of (mv := fun _ => false) (ret_bodyT callB30 Tryz.func30 rfl Tryz.ntmps30 rfl rfl (fun wX gX => ?_))
 unfold compile_number at hm
 refine WN [0] rfl rfl (RS (s_bx 0 rfl rfl rfl (s_al 1 rfl rfl zero77 rfl (s_upB (f := (D.int .i64)) 1 6 2 3 1 rfl rfl rfl (s_wkb 1 [some 14, some 1, some 1, none, none, none, none, none, none] rfl rfl (SA TK rfl (TN (WN [1, 2] rfl rfl ?_))))))))
 refine TQ (RS (SA TK rfl ?_))
 obtain ⟨r1, hr1, hm⟩ := BI hm
 refine SX rfl rfl (RN rfl rfl (SC (.d _) SN) (table_Check_c hr1)) (SA TK rfl (TN (WN [1, 2, 4] rfl rfl (RS (SA TK rfl (SA TK rfl (TN (WN [1, 2, 4, 10] rfl rfl ?_))))))))
 refine TC _ rfl (fun h2 => ?_) (fun h2 => ?_)
 ·replace hm := iteN_T h2 hm
  refine RS (SX rfl rfl (rd_build rfl plc77 zero77 rfl rfl rfl rfl) (SA TK rfl (SA TK rfl (s_upB (f := (D.int .i64)) 1 6 3 3 1 rfl rfl rfl (s_wkb 1 [some 14, some 1, some 1, none, none, none, none, none, none] rfl rfl (SA TK rfl (TN (WN [2, 3] rfl rfl (TR ?_)))))))))
  refine WR ?_
  obtain ⟨rfl, rfl⟩ := Prod.mk.inj (Option.some.inj hm)
  exact ⟨_, .mk _ (.cons (.agg (TK.lay rfl) rfl rfl rfl rfl) (.cons (.tmp 3) .nil)) rfl, (.cons (snap_agg (.cons (.d _) rfl (.cons (.d _) rfl (.cons (.d _) rfl (.cons (.d _) rfl (.cons (.d _) rfl (.cons (.d _) rfl (.cons (snap_map rfl) rfl (.cons (.d _) rfl (.cons (.d _) rfl .nil)))))))))) (.refl _) (.cons (.d _) (.refl _) .nil))⟩
 ·replace hm := iteN_F h2 hm
  refine TS (WT (WN [1, 2] rfl rfl (RS (SA TK rfl (SX rfl rfl (rd_build rfl plc77 zero77 rfl rfl rfl rfl) (s_al 3 rfl rfl zero77 rfl (s_upB (f := (D.int .i64)) 3 6 4 3 1 rfl rfl rfl (s_wkb 3 [some 14, some 1, some 1, none, none, none, none, none, none] rfl rfl ?_))))))))
  refine SA TK rfl (s_upB (f := (D.int .i64)) 3 6 5 3 1 rfl rfl rfl (TN (WN [1, 2, 5] rfl rfl (RS (SA TK rfl (SA TK rfl ?_))))))
  obtain ⟨g3, hm⟩ := GI hm
  refine SX rfl rfl (x_ar rfl rfl rfl rfl g3) (SA TK rfl (SA TK rfl (SX rfl rfl (x_len TK rfl rfl rfl) ?_)))
  obtain ⟨g4, hm⟩ := GI hm
  refine SX rfl rfl (x_ar rfl rfl rfl rfl g4) ?_
  obtain ⟨g5, hm⟩ := GI hm
  refine SX rfl rfl (x_ar rfl rfl rfl rfl g5) (SA TK rfl (SA TK rfl (SX rfl rfl (x_len TK rfl rfl rfl) ?_)))
  obtain ⟨g6, hm⟩ := GI hm
  refine SX rfl rfl (x_ar rfl rfl rfl rfl g6) ?_
  obtain ⟨g7, hm⟩ := GI hm
  refine SX rfl rfl (x_ar rfl rfl rfl rfl g7) (SA TK rfl (SA TK rfl (TN (WN [1, 2, 5] rfl rfl (RS ?_)))))
  iterate 4 (refine SA TK rfl ?_)
  refine SX rfl rfl (x_len TK rfl rfl rfl) ?_
  obtain ⟨g8, hm⟩ := GI hm
  refine SX rfl rfl (x_ar rfl rfl rfl rfl g8) (SA TK rfl (SA TK rfl (TN (WN [1, 2, 5] rfl rfl ?_))))
  refine w_joinM hm (fun (c9, b10) => ([] : Fr)) (fun (c9, b10) => ([(3, .box 77 [.d (.sl 14 (p0.routes.map Route.enc)), .d (.sl 1 (p0.points.map (D.int .i64))), .d (.sl 1 (p0.homes.map (D.int .i64))), .d (.int .i64 p0.sections), .d (.int .i64 p0.signals), .d (.int .i64 ((((2 : Int) * p0.sections) + ((2 : Int) * (p0.points.length : Int))) + ((4 : Int) * (p0.routes.length : Int)))), .msl 5 1 0 b10.length, .d (.int .i64 c9), .d (.int .i64 (0 : Int))]), (5, .flat 3 1 (b10.map (D.int .i64)))] : List (Nat × Blk))) [] [1, 2, 5] rfl (fun z11 hm => ?_) (fun j hm => ?_)
  ·refine RS (SA TK rfl (SA TK rfl (SX rfl rfl (x_len TK rfl rfl rfl) (SA TK rfl (TN (WN [1, 2, 5, 38, 39] rfl rfl (TB (w_loop hm (fun (x16, c17, b18) => ([(39, .d (.int .i64 x16))] : Fr)) (fun (x16, c17, b18) => ([(3, .box 77 [.d (.sl 14 (p0.routes.map Route.enc)), .d (.sl 1 (p0.points.map (D.int .i64))), .d (.sl 1 (p0.homes.map (D.int .i64))), .d (.int .i64 p0.sections), .d (.int .i64 p0.signals), .d (.int .i64 ((((2 : Int) * p0.sections) + ((2 : Int) * (p0.points.length : Int))) + ((4 : Int) * (p0.routes.length : Int)))), .msl 5 1 0 b18.length, .d (.int .i64 c17), .d (.int .i64 (0 : Int))]), (5, .flat 3 1 (b18.map (D.int .i64)))] : List (Nat × Blk))) [39] [1, 2, 5, 38] [0, 1, 2, 3, 4, 5] rfl k0 rfl rfl rfl rfl rfl (fun s z19 hm hz19 => ?_)))))))))
   obtain ⟨x16, c17, b18⟩ := s
   refine WN [1, 2, 5, 38, 39] rfl rfl (RS (SA TK rfl (TN (WN [1, 2, 5, 38, 39, 40] rfl rfl (TQ ?_)))))
   refine TC _ rfl (fun h20 => ?_) (fun h20 => ?_)
   ·replace hm := JT h20 hm
    refine TS (WT (WN [1, 2, 5, 38, 39] rfl rfl (TQ (TB (RS (SA TK rfl (SA TK rfl (TN (WN [1, 2, 5, 6, 38, 39] rfl rfl ?_)))))))))
    refine RS ?_
    iterate 4 (refine SA TK rfl ?_)
    refine SX rfl rfl (x_lit [.tmp 45] TK rfl rfl zero3 rfl rfl rfl rfl rfl) ?_
    obtain ⟨g21, hm⟩ := GI hm
    refine s_app (f := (D.int .i64)) ([c17] : List Int) TK rfl rfl zero3 rfl rfl rfl rfl rfl (fun h => absurd h (Nat.not_lt_zero _)) rfl src_d g21 rfl rfl (SA TK rfl (SA TK rfl (TN (WN [1, 2, 5, 6, 38, 39] rfl rfl (twp_draw follows  ?_)))))
    iterate 4 (refine DA [0, 1, 2, 3, 4, 5] TK rfl ?_)
    obtain ⟨r22, hr22, hm⟩ := BI hm
    refine DX [0, 1, 2, 3, 4, 5] rfl rfl (RN rfl rfl (SC (snap_agg (.cons (.d _) rfl (.cons (.d _) rfl (.cons (.d _) rfl (.cons (.d _) rfl (.cons (.d _) rfl (.cons (.d _) rfl (.cons (snap_map rfl) rfl (.cons (.d _) rfl (.cons (.d _) rfl .nil)))))))))) (SC (.d _) SN)) (compile_numbering_last_c hr22)) ?_
    obtain ⟨g23, hm⟩ := GI hm
    refine DX [0, 1, 2, 3, 4, 5] rfl rfl (x_ar rfl rfl rfl rfl g23) ?_
    obtain ⟨g24, hm⟩ := GI hm
    refine DX [0, 1, 2, 3, 4, 5] rfl rfl (x_ar rfl rfl rfl rfl g24) ?_
    obtain ⟨g25, hm⟩ := GI hm
    refine DX [0, 1, 2, 3, 4, 5] rfl rfl (x_ar rfl rfl rfl rfl g25) (DA [0, 1, 2, 3, 4, 5] TK rfl ?_)
    refine DT ?_ (by kernel_rfl)
    refine SA TK rfl (TN (WK (WT (WN [1, 2, 5, 38, 39] rfl rfl (TG ?_)))))
    obtain ⟨g26, hm⟩ := GI hm
    refine SX rfl rfl (x_ar rfl rfl rfl rfl g26) (SA TK rfl (TN (WT ?_)))
    exact ⟨_, [0, 1, 2, 3, 4, 5], (SJ hm), rfl, k0, rfl⟩
   ·replace hm := JF h20 hm
    refine twp_exit (WX ?_)
    obtain ⟨v27, hm, hz⟩ := II hm
    rw [hz19 _ hz] at hm
    refine WX (WH (WT ?_))
    exact ⟨_, [0, 1, 2, 3, 4, 5], (SJ hm), rfl, k0, rfl⟩
  ·obtain ⟨c9, b10⟩ := j
   refine WN [1, 2, 5] rfl rfl (RS ?_)
   iterate 4 (refine SA TK rfl ?_)
   refine SX rfl rfl (x_len TK rfl rfl rfl) ?_
   obtain ⟨g28, hm⟩ := GI hm
   refine SX rfl rfl (x_ar rfl rfl rfl rfl g28) ?_
   obtain ⟨g29, hm⟩ := GI hm
   refine SX rfl rfl (x_ar rfl rfl rfl rfl g29) (SA TK rfl (SA TK rfl (TN (WN [2, 5] rfl rfl (TQ (RS (SA TK rfl (SA TK rfl (SA TK rfl (TN (WN [2, 5, 69] rfl rfl ?_)))))))))))
   refine TC _ rfl (fun h30 => ?_) (fun h30 => ?_)
   ·replace hm := JT h30 hm
    refine RS (SX rfl rfl (rd_build rfl plc77 zero77 rfl rfl rfl rfl) (SA TK rfl (s_upB (f := (D.int .i64)) 1 6 6 3 1 rfl rfl rfl (s_wkb 1 [some 14, some 1, some 1, none, none, none, none, none, none] rfl rfl (SA TK rfl (TN (WN [2, 3] rfl rfl (TR ?_))))))))
    refine WR ?_
    obtain ⟨rfl, rfl⟩ := Prod.mk.inj (Option.some.inj hm)
    exact ⟨_, .mk _ (.cons (.agg (TK.lay rfl) rfl rfl rfl rfl) (.cons (.tmp 3) .nil)) rfl, (.cons (snap_agg (.cons (.d _) rfl (.cons (.d _) rfl (.cons (.d _) rfl (.cons (.d _) rfl (.cons (.d _) rfl (.cons (.d _) rfl (.cons (snap_map rfl) rfl (.cons (.d _) rfl (.cons (.d _) rfl .nil)))))))))) (.refl _) (.cons (.d _) (.refl _) .nil))⟩
   ·replace hm := JF h30 hm
    refine TS (WT (WN [2, 5] rfl rfl (RS (SA TK rfl (SA TK rfl (SA TK rfl (TN (WN [2, 3] rfl rfl (TR ?_)))))))))
    obtain ⟨rfl, rfl⟩ := Prod.mk.inj (Option.some.inj hm)
    exact ⟨_, .mk _ (.cons (.agg (TK.lay rfl) rfl rfl rfl rfl) (.cons (.tmp 3) .nil)) rfl, (.cons (snap_agg (.cons (.d _) rfl (.cons (.d _) rfl (.cons (.d _) rfl (.cons (.d _) rfl (.cons (.d _) rfl (.cons (.d _) rfl (.cons (snap_map rfl) rfl (.cons (.d _) rfl (.cons (.d _) rfl .nil)))))))))) (.refl _) (.cons (.d _) (.refl _) .nil))⟩

theorem compile_numbering_part_c {p0 : Numbering} {p1 : Int} {p2 : Int} {r : Int} (hm : compile_numbering_part p0 p1 p2 = some r) : RetN Tryz.prog 39 [p0.enc, .int .i64 p1, .int .i64 p2] (.int .i64 r) := by
 refine .unit (ret_bodyS callB39 Tryz.func39 rfl Tryz.ntmps39 rfl rfl (fun wX gX => ?_)) rfl
 unfold compile_numbering_part at hm
 refine WN [0, 1, 2] rfl rfl (RS (s_bx 0 rfl rfl rfl (SA TK rfl (TN (WN [1, 2, 3] rfl rfl (RS (SA TK rfl (SA TK rfl (SA TK rfl ?_)))))))))
 obtain ⟨e1, he1, hm⟩ := GV hm
 refine SX rfl rfl (x_ix TK rfl rfl rfl rfl he1) (SA TK rfl (SA TK rfl ?_))
 obtain ⟨g2, hm⟩ := GI hm
 refine SX rfl rfl (x_ar rfl rfl rfl rfl g2) (SA TK rfl (TN (WN [6] rfl rfl (TR ?_))))
 obtain rfl := OJ hm
 exact EndsS.one _ rfl (.d _) (.refl _)

theorem compile_numbering_wait_c {p0 : Numbering} {p1 : Int} {r : Int} (hm : compile_numbering_wait p0 p1 = some r) : RetN Tryz.prog 78 [p0.enc, .int .i64 p1] (.int .i64 r) := by
 refine .unit (ret_bodyS callB78 Tryz.func78 rfl Tryz.ntmps78 rfl rfl (fun wX gX => ?_)) rfl
 unfold compile_numbering_wait at hm
 refine WN [0, 1] rfl rfl (RS (s_bx 0 rfl rfl rfl (SA TK rfl (TN (WN [1, 2] rfl rfl (twp_dseq follows  ?_))))))
 iterate 4 (refine DA [0] TK rfl ?_)
 obtain ⟨r1, hr1, hm⟩ := BI hm
 refine DX [0] rfl rfl (RN rfl rfl (SC (.d _) (SC (.d _) SN)) (compile_numbering_last_c hr1)) ?_
 obtain ⟨g2, hm⟩ := GI hm
 refine DX [0] rfl rfl (x_ar rfl rfl rfl rfl g2) ?_
 obtain ⟨r3, hr3, hm⟩ := BI hm
 refine DX [0] rfl rfl (RN rfl rfl (SC (.d _) (SC (.d _) (SC (.d _) SN))) (compile_numbering_part_c hr3)) ?_
 refine DT ?_ (by kernel_rfl)
 refine SA TK rfl (TN (WN [4] rfl rfl (TR ?_)))
 obtain rfl := OJ hm
 exact EndsS.one _ rfl (.d _) (.refl _)

theorem compile_val_c {p0 : Int} {r : Expr} (hm : compile_val p0 = some r) : RetD Tryz.prog 41 [.int .i64 p0] (r.enc) := by
 refine .of (mv := fun _ => false) (ret_bodyS callB41 Tryz.func41 rfl Tryz.ntmps41 rfl rfl (fun wX gX => ?_))
 unfold compile_val at hm
 refine WN [0] rfl rfl (RS (s_al 0 rfl rfl zero38 rfl (s_wkb 0 [none, none, some 3] rfl rfl (TN (WN [0, 2] rfl rfl (RS (SA TK rfl (SX rfl rfl (build_d rfl plc38 zero38 rfl rfl rfl rfl) ?_))))))))
 refine s_wk 4 [none, none, some 3] rfl (SA TK rfl (TN (WN [2] rfl rfl (TR ?_))))
 obtain rfl := OJ hm
 exact EndsS.cellR _ TK rfl rfl rfl rfl rfl (.d _)

theorem compile_numbering_request_c {p0 : Numbering} {p1 : Int} {p2 : Int} {r : Int} (hm : compile_numbering_request p0 p1 p2 = some r) : RetN Tryz.prog 141 [p0.enc, .int .i64 p1, .int .i64 p2] (.int .i64 r) := by
 refine .unit (ret_bodyS callB141 Tryz.func141 rfl Tryz.ntmps141 rfl rfl (fun wX gX => ?_)) rfl
 unfold compile_numbering_request at hm
 refine WN [0, 1, 2] rfl rfl (RS (s_bx 0 rfl rfl rfl (SA TK rfl (TN (WN [1, 2, 3] rfl rfl (RS (SA TK rfl (SA TK rfl (SA TK rfl ?_)))))))))
 obtain ⟨g1, hm⟩ := GI hm
 refine SX rfl rfl (x_ar rfl rfl rfl rfl g1) (SA TK rfl (SA TK rfl (SA TK rfl (SX rfl rfl (x_len TK rfl rfl rfl) ?_))))
 obtain ⟨g2, hm⟩ := GI hm
 refine SX rfl rfl (x_ar rfl rfl rfl rfl g2) ?_
 obtain ⟨g3, hm⟩ := GI hm
 refine SX rfl rfl (x_ar rfl rfl rfl rfl g3) (SA TK rfl ?_)
 obtain ⟨g4, hm⟩ := GI hm
 refine SX rfl rfl (x_ar rfl rfl rfl rfl g4) ?_
 obtain ⟨g5, hm⟩ := GI hm
 refine SX rfl rfl (x_ar rfl rfl rfl rfl g5) (SA TK rfl ?_)
 obtain ⟨g6, hm⟩ := GI hm
 refine SX rfl rfl (x_ar rfl rfl rfl rfl g6) (SA TK rfl (TN (WN [6] rfl rfl (TR ?_))))
 obtain rfl := OJ hm
 exact EndsS.one _ rfl (.d _) (.refl _)

theorem compile_numbering_section_c {p0 : Numbering} {p1 : Int} {p2 : Int} {r : Int} (hm : compile_numbering_section p0 p1 p2 = some r) : RetN Tryz.prog 92 [p0.enc, .int .i64 p1, .int .i64 p2] (.int .i64 r) := by
 refine .unit (ret_bodyS callB92 Tryz.func92 rfl Tryz.ntmps92 rfl rfl (fun wX gX => ?_)) rfl
 unfold compile_numbering_section at hm
 refine WN [0, 1, 2] rfl rfl (RS (s_bx 0 rfl rfl rfl (SA TK rfl (TN (WN [1, 2] rfl rfl (RS (SA TK rfl ?_)))))))
 obtain ⟨g1, hm⟩ := GI hm
 refine SX rfl rfl (x_ar rfl rfl rfl rfl g1) (SA TK rfl ?_)
 obtain ⟨g2, hm⟩ := GI hm
 refine SX rfl rfl (x_ar rfl rfl rfl rfl g2) (SA TK rfl (TN (WN [6] rfl rfl (TR ?_))))
 obtain rfl := OJ hm
 exact EndsS.one _ rfl (.d _) (.refl _)

theorem compile_or_c {p0 : (List Expr)} {r : Expr} (hm : compile_or p0 = some r) : RetD Tryz.prog 40 [.sl 3 (p0.map Expr.encR)] (r.enc) := by
 refine .of (mv := fun _ => false) (ret_bodyS callB40 Tryz.func40 rfl Tryz.ntmps40 rfl rfl (fun wX gX => ?_))
 unfold compile_or at hm
 refine WN [0] rfl rfl (RS (s_al 0 rfl rfl zero38 rfl (s_wkb 0 [none, none, some 3] rfl rfl (TN (WN [0, 2] rfl rfl (RS (SA TK rfl (SX rfl rfl (build_d rfl plc38 zero38 rfl rfl rfl rfl) ?_))))))))
 refine SA TK rfl (TN (WN [2] rfl rfl (TR ?_)))
 obtain rfl := OJ hm
 exact EndsS.cellR _ TK rfl rfl rfl rfl rfl (.d _)

theorem compile_and_c {p0 : (List Expr)} {r : Expr} (hm : compile_and p0 = some r) : RetD Tryz.prog 79 [.sl 3 (p0.map Expr.encR)] (r.enc) := by
 refine .of (mv := fun _ => false) (ret_bodyS callB79 Tryz.func79 rfl Tryz.ntmps79 rfl rfl (fun wX gX => ?_))
 unfold compile_and at hm
 refine WN [0] rfl rfl (RS (s_al 0 rfl rfl zero38 rfl (s_wkb 0 [none, none, some 3] rfl rfl (TN (WN [0, 2] rfl rfl (RS (SA TK rfl (SX rfl rfl (build_d rfl plc38 zero38 rfl rfl rfl rfl) ?_))))))))
 refine SA TK rfl (TN (WN [2] rfl rfl (TR ?_)))
 obtain rfl := OJ hm
 exact EndsS.cellR _ TK rfl rfl rfl rfl rfl (.d _)

theorem compile_numbering_stand_c {p0 : Numbering} {p1 : Int} {r : Int} (hm : compile_numbering_stand p0 p1 = some r) : RetN Tryz.prog 83 [p0.enc, .int .i64 p1] (.int .i64 r) := by
 refine .unit (ret_bodyS callB83 Tryz.func83 rfl Tryz.ntmps83 rfl rfl (fun wX gX => ?_)) rfl
 unfold compile_numbering_stand at hm
 refine WN [0, 1] rfl rfl (RS (s_bx 0 rfl rfl rfl (SA TK rfl (TN (WN [1, 2] rfl rfl (RS (SA TK rfl (SA TK rfl ?_))))))))
 obtain ⟨r1, hr1, hm⟩ := BI hm
 refine SX rfl rfl (RN rfl rfl (SC (.d _) (SC (.d _) SN)) (compile_numbering_wait_c hr1)) ?_
 obtain ⟨g2, hm⟩ := GI hm
 refine SX rfl rfl (x_ar rfl rfl rfl rfl g2) (SA TK rfl (TN (WN [4] rfl rfl (TR ?_))))
 obtain rfl := OJ hm
 exact EndsS.one _ rfl (.d _) (.refl _)

theorem compile_not_c {p0 : Expr} {r : Expr} (hm : compile_not p0 = some r) : RetD Tryz.prog 85 [p0.enc] (r.enc) := by
 refine .of (mv := fun _ => false) (ret_bodyS callB85 Tryz.func85 rfl Tryz.ntmps85 rfl rfl (fun wX gX => ?_))
 unfold compile_not at hm
 refine WN [0] rfl rfl (RS (s_bx 0 rfl rfl rfl (s_al 1 rfl rfl zero38 rfl (s_wkb 1 [none, none, some 3] rfl rfl (TN (WN [1, 2] rfl rfl (RS (SA TK rfl ?_))))))))
 refine SX rfl rfl (x_litE (f := Expr.encR) (xs := ([p0] : List Expr)) [.tmp 3] TK rfl rfl zero38 rfl (evD_of rfl (encs_cons (Expr.encR_eq _) encs_nil)) rfl (litE_size Expr.encR_cells) rfl) (SX rfl rfl (build_d rfl plc38 zero38 rfl rfl rfl rfl) (SA TK rfl (TN (WN [2] rfl rfl (TR ?_)))))
 obtain rfl := OJ hm
 exact EndsS.cellR _ TK rfl rfl rfl rfl rfl (.d _)

theorem compile_numbering_aux_c {p0 : Numbering} {p1 : Int} {p2 : Int} {r : Int} (hm : compile_numbering_aux p0 p1 p2 = some r) : RetN Tryz.prog 35 [p0.enc, .int .i64 p1, .int .i64 p2] (.int .i64 r) := by
 refine .unit (ret_bodyS callB35 Tryz.func35 rfl Tryz.ntmps35 rfl rfl (fun wX gX => ?_)) rfl
 unfold compile_numbering_aux at hm
 refine WN [0, 1, 2] rfl rfl (RS (s_bx 0 rfl rfl rfl (SA TK rfl (TN (WN [1, 2, 3] rfl rfl (RS (SA TK rfl (SA TK rfl (SA TK rfl ?_)))))))))
 obtain ⟨g1, hm⟩ := GI hm
 refine SX rfl rfl (x_ar rfl rfl rfl rfl g1) ?_
 obtain ⟨g2, hm⟩ := GI hm
 refine SX rfl rfl (x_ar rfl rfl rfl rfl g2) (SA TK rfl ?_)
 obtain ⟨g3, hm⟩ := GI hm
 refine SX rfl rfl (x_ar rfl rfl rfl rfl g3) (SA TK rfl (TN (WN [6] rfl rfl (TR ?_))))
 obtain rfl := OJ hm
 exact EndsS.one _ rfl (.d _) (.refl _)

theorem slices_Concat_SettingGrow (n : Nat) (hn : n ≤ 1000000000) (mv : Nat → Bool) : Ret Tryz.prog 172 [] mv ([.nilsl, .int .i64 n].map .d) (.msl 0 2 0 0) [.flat 133 2 []] := by
 refine ret_body callB172 Tryz.func172 rfl Tryz.ntmps172 rfl rfl (fun wX gX => (twp_norm [0, 1] (sub_d rfl (sub_d rfl .nil)) (blk_nil rfl) (RS (s_rd _ rfl (mv_d (.inr rfl) rfl) (TN (twp_norm [0, 1] (sub_d rfl (sub_d rfl .nil)) (blk_nil rfl) (TQ (RS (s_rd _ rfl (mv_d (.inl rfl) rfl) ?_)))))))))
 refine s_rd _ rfl (cmp_int rfl rfl rfl rfl) (TN (twp_norm [0, 1, 6] (sub_d rfl (sub_d rfl (sub_d rfl .nil))) (blk_nil rfl) ?_))
 refine TC _ rfl (fun hneg => ?_) (fun hneg => ?_)
 ·exact absurd (of_decide_eq_true hneg) (by omega)
 ·refine TS (WT (twp_norm [0, 1] (sub_d rfl (sub_d rfl .nil)) (blk_nil rfl) (TQ (RS (s_rd _ rfl (mv_d (.inl rfl) rfl) (s_rd _ rfl (mv_d (.inl rfl) rfl) (s_rd _ rfl (cap_nil rfl sel71 rfl) (s_rd _ rfl (mv_d (.inl rfl) rfl) ?_))))))))
  refine s_rd _ rfl (len_nil rfl sel71 rfl) ?_
  refine s_rd _ rfl (arith_to (r := 0) rfl rfl rfl rfl rfl (by first | omega | (constructor <;> omega))) ?_
  refine s_rd _ rfl (arith_to (r := (n : Int)) rfl rfl rfl rfl (by omega) (by first | omega | (constructor <;> omega))) ?_
  refine s_rd _ rfl (mv_d (.inr rfl) rfl) (TN (twp_norm [0, 1] (sub_d rfl (sub_d rfl .nil)) (blk_nil rfl) (RS (s_rd _ rfl (mv_d (.inl rfl) rfl) (s_rd _ rfl (cmp_int rfl rfl rfl rfl) (TN (twp_norm [0, 1, 16] (sub_d rfl (sub_d rfl (sub_d rfl .nil))) (blk_nil rfl) ?_)))))))
  refine TC _ rfl (fun hpos => ?_) (fun hpos => ?_)
  ·have hpos : 0 < n := by simpa using hpos
   refine TG (s_rd _ rfl (mv_d (.inl rfl) rfl) (s_rd _ rfl (mv_d (.inl rfl) rfl) (s_rd _ rfl (cap_nil rfl sel71 rfl) (s_rd _ rfl (cut_nil rfl sel71 rfl rfl rfl) (s_rd _ rfl (mv_d (.inl rfl) rfl) ?_)))))
   refine s_zeros (n := n) rfl sel71 Tryz.underlying3 zero133 rfl rfl rfl hpos (by decide) (by omega) (by omega) ?_
   refine s_rd _ rfl (mv_d (.inl rfl) rfl) (s_rd _ rfl (len_nil rfl sel71 rfl) (s_rd _ rfl (rd_cut_msl 0 2 16 0 n 0 0 rfl sel71 rfl rfl rfl (Nat.le_refl _) (Nat.zero_le _)) (s_rd _ rfl (mv_msl (.inr rfl) rfl) (TN (WT (twp_norm [0] (sub_msl rfl .nil) (blk_flat rfl (blk_nil rfl)) (RS (s_rd _ rfl (mv_msl (.inl rfl) rfl) ?_))))))))
   refine s_rd _ rfl (mv_msl (.inr rfl) rfl) (TN (twp_norm [4] (sub_msl rfl .nil) (blk_flat rfl (blk_nil rfl)) (TR ?_)))
   exact ⟨_, [0], res rfl, by decide, fun i hi => absurd hi (Nat.not_lt_zero i), rfl, rfl⟩
  ·refine twp_upgrade 0 133 2 rfl (TS (WT (twp_norm [0] (sub_msl rfl .nil) (blk_flat rfl (blk_nil rfl)) (RS (s_rd _ rfl (mv_msl (.inl rfl) rfl) (s_rd _ rfl (mv_msl (.inr rfl) rfl) (TN (twp_norm [4] (sub_msl rfl .nil) (blk_flat rfl (blk_nil rfl)) ?_))))))))
   refine TR ?_
   exact ⟨_, [0], res rfl, by decide, fun i hi => absurd hi (Nat.not_lt_zero i), rfl, rfl⟩

theorem slices_Concat_SettingConcat (xss : List (List Setting)) (hn : xss.length ≤ 1000) (ht : xss.flatten.length ≤ 1000000000) (mv : Nat → Bool) : Ret Tryz.prog 145 [] mv ([.sl 1 (xss.map fun l => .sl 2 (l.map Setting.enc))].map .d) (.msl 0 2 0 xss.flatten.length) [.flat 133 2 (xss.flatten.map Setting.enc)] := by
 refine ret_body callB145 Tryz.func145 rfl Tryz.ntmps145 rfl rfl (fun wX gX => (twp_norm [0] (sub_d rfl .nil) (blk_nil rfl) (RS (s_rd _ rfl (mv_d (.inr rfl) rfl) (TN (twp_norm [0] (sub_d rfl .nil) (blk_nil rfl) (RS (s_rd _ rfl (mv_d (.inr rfl) rfl) (TN ?_)))))))))
 refine twp_norm [0, 3] (sub_d rfl (sub_d rfl .nil)) (blk_nil rfl) (TQ (RS (s_rd _ rfl (mv_d (.inl rfl) rfl) ?_)))
 refine s_rd _ rfl (by first | exact len_d rfl sel196 rfl (by first | exact List.length_map _ | rfl) | exact len_nil rfl sel196 rfl) ?_
 refine s_rd _ rfl (mv_d (.inl rfl) rfl) (TN (twp_norm [0, 3, 9, 10, 11] (sub_d rfl (sub_d rfl (sub_d rfl (sub_d rfl (sub_d rfl .nil))))) (blk_nil rfl) (TB ?_)))
 refine twp_whileK (fun i => ([(3, .d (.int .i64 ((flatTo xss i).length : Int))), (11, .d (.int .i64 ((i : Nat) : Int)))] : Fr)) (fun i => ([] : List (Nat × Blk))) (fun i => i ≤ xss.length) (fun i => xss.length - i) [3, 11] [0, 9, 10] [] 0 (by decide) (fun i hi => absurd hi (Nat.not_lt_zero i)) (Nat.zero_le _) (sub_d rfl (sub_d rfl (sub_d rfl .nil))) rfl (by rw [flat_zero]; rfl) (blk_nil rfl) rfl ?_
 rintro i hok
 refine twp_norm [3, 11, 0, 9, 10] (sub_d rfl (sub_d rfl (sub_d rfl (sub_d rfl (sub_d rfl .nil))))) (blk_nil rfl) (RS (s_rd _ rfl (cmp_int rfl rfl rfl rfl) (TN (twp_norm [0, 3, 9, 10, 11, 12] (sub_d rfl (sub_d rfl (sub_d rfl (sub_d rfl (sub_d rfl (sub_d rfl .nil)))))) (blk_nil rfl) (TQ ?_)))))
 refine TC _ rfl (fun hlt => ?_) (fun hlt => ?_)
 ·have hlt : i < xss.length := by simpa using hlt
  obtain ⟨x, hx⟩ : ∃ x, (xss)[i]? = some x := ⟨_, List.getElem?_eq_getElem (by first | exact hlt | omega | (simp; omega))⟩
  have hs := flat_succ hx
  have hle := flat_le xss (i + 1)
  refine TS (WT (twp_norm [0, 3, 9, 10, 11] (sub_d rfl (sub_d rfl (sub_d rfl (sub_d rfl (sub_d rfl .nil))))) (blk_nil rfl) (TQ (TB (RS (s_rd _ rfl (index_sl rfl sel196 rfl rfl (idx_map hx)) (s_rd _ rfl (load_ptr rfl lay71 rfl rfl) (s_rd _ rfl (mv_d (.inr rfl) rfl) ?_))))))))
  refine TN (twp_norm [0, 3, 5, 9, 10, 11] (sub_d rfl (sub_d rfl (sub_d rfl (sub_d rfl (sub_d rfl (sub_d rfl .nil)))))) (blk_nil rfl) (RS (s_rd _ rfl (mv_d (.inl rfl) rfl) (s_rd _ rfl (mv_d (.inl rfl) rfl) ?_))))
  refine s_rd _ rfl (by first | exact len_d rfl sel71 rfl (by first | exact List.length_map _ | rfl) | exact len_nil rfl sel71 rfl) ?_
  refine s_rd _ rfl (arith_to (r := ((flatTo xss (i + 1)).length : Int)) rfl rfl rfl rfl (by rw [hs]; simp) (by omega)) ?_
  refine s_rd _ rfl (mv_d (.inr rfl) rfl) (TN (twp_norm [0, 3, 9, 10, 11] (sub_d rfl (sub_d rfl (sub_d rfl (sub_d rfl (sub_d rfl .nil))))) (blk_nil rfl) (RS (s_rd _ rfl (mv_d (.inl rfl) rfl) (s_rd _ rfl (cmp_int rfl rfl rfl rfl) (TN (twp_norm [0, 3, 9, 10, 11, 20] (sub_d rfl (sub_d rfl (sub_d rfl (sub_d rfl (sub_d rfl (sub_d rfl .nil)))))) (blk_nil rfl) ?_)))))))
  refine TC _ rfl (fun hneg => ?_) (fun hneg => ?_)
  ·exact absurd (of_decide_eq_true hneg) (by omega)
  ·refine TS (WK (WT (twp_norm [0, 3, 9, 10, 11] (sub_d rfl (sub_d rfl (sub_d rfl (sub_d rfl (sub_d rfl .nil))))) (blk_nil rfl) (TG ?_))))
   refine s_rd _ rfl (arith_ok rfl rfl rfl rfl (by first | omega | (constructor <;> omega))) ?_
   refine s_rd _ rfl (mv_d (.inl rfl) rfl) (TN (WT ?_))
   exact ⟨(i + 1), [], by decide, (fun i hi => absurd hi (Nat.not_lt_zero i)), (by omega), (by omega), rfl⟩
 ·have hge : ¬ i < xss.length := by simpa using hlt
  have hi : i = xss.length := by omega
  refine twp_exit (WX (WX (WH (WT (twp_norm [0, 3] (sub_d rfl (sub_d rfl .nil)) (blk_nil rfl) (RS (s_rd _ rfl (mv_d (.inl rfl) rfl) ?_)))))))
  refine s_callD rfl rfl rfl (slices_Concat_SettingGrow _ (by have := flat_le xss i; omega) (fun _ => false)) rfl rfl ?_
  refine s_rd _ rfl (mv_msl (.inr rfl) rfl) (TN (twp_norm [0, 6] (sub_d rfl (sub_msl rfl .nil)) (blk_flat rfl (blk_nil rfl)) (TQ (RS (s_rd _ rfl (mv_d (.inl rfl) rfl) ?_)))))
  refine s_rd _ rfl (by first | exact len_d rfl sel196 rfl (by first | exact List.length_map _ | rfl) | exact len_nil rfl sel196 rfl) ?_
  refine s_rd _ rfl (mv_d (.inl rfl) rfl) (TN (twp_norm [6, 25, 26, 27] (sub_msl rfl (sub_d rfl (sub_d rfl (sub_d rfl .nil)))) (blk_flat rfl (blk_nil rfl)) (TB ?_)))
  refine twp_whileK (fun i => ([(6, .msl 0 2 0 (flatTo xss i).length), (27, .d (.int .i64 ((i : Nat) : Int)))] : Fr)) (fun i => ([(0, .flat 133 2 ((flatTo xss i).map Setting.enc))] : List (Nat × Blk))) (fun i => i ≤ xss.length) (fun i => xss.length - i) [6, 27] [25, 26] [0] 0 (by decide) (fun i hi => absurd hi (Nat.not_lt_zero i)) (Nat.zero_le _) (sub_d rfl (sub_d rfl .nil)) rfl (by rw [flat_zero]; rfl) (blk_flat rfl (blk_nil rfl)) (by rw [flat_zero]; rfl) ?_
  rintro i hok
  refine twp_norm [6, 27, 25, 26] (sub_msl rfl (sub_d rfl (sub_d rfl (sub_d rfl .nil)))) (blk_flat rfl (blk_nil rfl)) (RS (s_rd _ rfl (cmp_int rfl rfl rfl rfl) (TN (twp_norm [6, 25, 26, 27, 28] (sub_msl rfl (sub_d rfl (sub_d rfl (sub_d rfl (sub_d rfl .nil))))) (blk_flat rfl (blk_nil rfl)) (TQ ?_)))))
  refine TC _ rfl (fun hlt => ?_) (fun hlt => ?_)
  ·have hlt : i < xss.length := by simpa using hlt
   obtain ⟨x, hx⟩ : ∃ x, (xss)[i]? = some x := ⟨_, List.getElem?_eq_getElem (by first | exact hlt | omega | (simp; omega))⟩
   have hs := flat_succ hx
   have hle := flat_le xss (i + 1)
   have hsl : (flatTo xss (i + 1)).length = (flatTo xss i).length + x.length := by rw [hs]; simp
   refine TS (WT (twp_norm [6, 25, 26, 27] (sub_msl rfl (sub_d rfl (sub_d rfl (sub_d rfl .nil)))) (blk_flat rfl (blk_nil rfl)) (TQ (TB (RS (s_rd _ rfl (index_sl rfl sel196 rfl rfl (idx_map hx)) (s_rd _ rfl (load_ptr rfl lay71 rfl rfl) (s_rd _ rfl (mv_d (.inr rfl) rfl) ?_))))))))
   refine TN (twp_norm [6, 8, 25, 26, 27] (sub_msl rfl (sub_d rfl (sub_d rfl (sub_d rfl (sub_d rfl .nil))))) (blk_flat rfl (blk_nil rfl)) (TG (s_rd _ rfl (mv_msl (.inl rfl) rfl) (s_rd _ rfl (mv_d (.inl rfl) rfl) ?_))))
   refine s_append (m := (flatTo xss (i + 1)).length) (ds := x.map Setting.enc) (es' := (flatTo xss (i + 1)).map Setting.enc) rfl sel71 zero133 rfl rfl rfl (by simp) (fun h => absurd h (Nat.not_lt_zero _)) rfl ⟨rfl, (by first | rfl | (simp [List.map_take, List.map_drop]; done) | (rw [← List.map_drop, List.take_of_length_le (by simp)]))⟩ (by rw [hs]; simp) (by simp; omega) (by omega) (by omega) rfl rfl ?_
   refine s_rd _ rfl (mv_msl (.inr rfl) rfl) (TN (WK (WT (twp_norm [6, 25, 26, 27] (sub_msl rfl (sub_d rfl (sub_d rfl (sub_d rfl .nil)))) (blk_flat rfl (blk_nil rfl)) (TG ?_)))))
   refine s_rd _ rfl (arith_ok rfl rfl rfl rfl (by first | omega | (constructor <;> omega))) ?_
   refine s_rd _ rfl (mv_d (.inl rfl) rfl) (TN (WT ?_))
   exact ⟨(i + 1), [0], by decide, (fun i hi => absurd hi (Nat.not_lt_zero i)), (by omega), (by omega), rfl⟩
  ·have hge : ¬ i < xss.length := by simpa using hlt
   have hi : i = xss.length := by omega
   have hall := flat_all hge
   refine twp_exit (WX (WX (WH (WT (twp_norm [6] (sub_msl rfl .nil) (blk_flat rfl (blk_nil rfl)) (RS (s_rd _ rfl (mv_msl (.inl rfl) rfl) (s_rd _ rfl (mv_msl (.inr rfl) rfl) ?_))))))))
   refine TN (twp_norm [2] (sub_msl rfl .nil) (blk_flat rfl (blk_nil rfl)) (TR ?_))
   rw [hall]
   exact ⟨_, [0], res rfl, by decide, fun i hi => absurd hi (Nat.not_lt_zero i), rfl, rfl⟩

theorem slices_Concat_Setting_row {p0 : List (List Setting)} {r : List Setting} (hm : slices_Concat_Setting p0 = some r) : Ret Tryz.prog 145 [] (fun _ => false) ([.sl 1 (p0.map (fun l => D.sl 2 (l.map Setting.enc)))].map .d) (.msl 0 2 0 r.length) [.flat 133 2 (r.map Setting.enc)] := by
 unfold slices_Concat_Setting at hm
 obtain ⟨g, hm⟩ := GI hm
 obtain rfl := OJ hm
 exact slices_Concat_SettingConcat p0 g.1 g.2 (fun _ => false)

theorem cmp_isNaN_int_c {p0 : Int} {r : Bool} (hm : cmp_isNaN_int p0 = some r) : RetN Tryz.prog 174 [.int .i64 p0] (.bool (r)) := by
 refine .unit (ret_bodyS callB174 Tryz.func174 rfl Tryz.ntmps174 rfl rfl (fun wX gX => ?_)) rfl
 unfold cmp_isNaN_int at hm
 refine WN [0] rfl rfl (RS (SA TK rfl (TN (WN [0] rfl rfl (RS ?_)))))
 iterate 4 (refine SA TK rfl ?_)
 refine TN (WN [2] rfl rfl (TR ?_))
 obtain rfl := OJ hm
 exact EndsS.one _ rfl (.d _) (.refl _)

theorem cmp_Compare_int_c {p0 : Int} {p1 : Int} {r : Int} (hm : cmp_Compare_int p0 p1 = some r) : RetN Tryz.prog 149 [.int .i64 p0, .int .i64 p1] (.int .i64 r) := by
 refine .unit (ret_bodyS callB149 Tryz.func149 rfl Tryz.ntmps149 rfl rfl (fun wX gX => ?_)) rfl
 unfold cmp_Compare_int at hm
 refine WN [0, 1] rfl rfl (RS (SA TK rfl (TN (WN [0, 1] rfl rfl (RS (SA TK rfl ?_))))))
 obtain ⟨r1, hr1, hm⟩ := BI hm
 refine SX rfl rfl (RN rfl rfl (SC (.d _) SN) (cmp_isNaN_int_c hr1)) (SA TK rfl (TN (WN [0, 1, 5] rfl rfl (RS (SA TK rfl ?_)))))
 obtain ⟨r2, hr2, hm⟩ := BI hm
 refine SX rfl rfl (RN rfl rfl (SC (.d _) SN) (cmp_isNaN_int_c hr2)) (SA TK rfl (TN (WN [0, 1, 5, 6] rfl rfl (TQ (RS (SA TK rfl (TN (WN [0, 1, 6, 11] rfl rfl ?_))))))))
 refine TC _ rfl (fun h3 => ?_) (fun h3 => ?_)
 ·replace hm := JA h3 hm
  refine TQ (RS (SA TK rfl (TN (WN [12] rfl rfl ?_))))
  refine TC _ rfl (fun h4 => ?_) (fun h4 => ?_)
  ·replace hm := JA h4 hm
   refine RS (SA TK rfl (TN (WN [4] rfl rfl (TR (WR (WR ?_))))))
   obtain rfl := OJ hm
   exact EndsS.one _ rfl (.d _) (.refl _)
  ·replace hm := JB h4 hm
   refine TS (WT (WN [] rfl rfl (RS (SA TK rfl (TN (WN [4] rfl rfl (TR (WR ?_))))))))
   obtain rfl := OJ hm
   exact EndsS.one _ rfl (.d _) (.refl _)
 ·replace hm := JB h3 hm
  refine TS (WT (WN [0, 1, 6] rfl rfl (TQ (RS (SA TK rfl (TN (WN [0, 1, 13] rfl rfl ?_)))))))
  refine TC _ rfl (fun h5 => ?_) (fun h5 => ?_)
  ·replace hm := JA h5 hm
   refine RS (SA TK rfl (TN (WN [4] rfl rfl (TR (WR ?_)))))
   obtain rfl := OJ hm
   exact EndsS.one _ rfl (.d _) (.refl _)
  ·replace hm := JB h5 hm
   refine TS (WT (WN [0, 1] rfl rfl (TQ (RS (SA TK rfl (SA TK rfl (SA TK rfl (TN (WN [0, 1, 16] rfl rfl ?_)))))))))
   refine TC _ rfl (fun h6 => ?_) (fun h6 => ?_)
   ·replace hm := JT h6 hm
    refine RS (SA TK rfl (TN (WN [4] rfl rfl (TR (WR ?_)))))
    obtain rfl := OJ hm
    exact EndsS.one _ rfl (.d _) (.refl _)
   ·replace hm := JF h6 hm
    refine TS (WT (WN [0, 1] rfl rfl (TQ (RS (SA TK rfl (SA TK rfl (SA TK rfl (TN (WN [19] rfl rfl ?_)))))))))
    refine TC _ rfl (fun h7 => ?_) (fun h7 => ?_)
    ·replace hm := JT h7 hm
     refine RS (SA TK rfl (TN (WN [4] rfl rfl (TR (WR ?_)))))
     obtain rfl := OJ hm
     exact EndsS.one _ rfl (.d _) (.refl _)
    ·replace hm := JF h7 hm
     refine TS (WT (WN [] rfl rfl (RS (SA TK rfl (TN (WN [4] rfl rfl (TR ?_)))))))
     obtain rfl := OJ hm
     exact EndsS.one _ rfl (.d _) (.refl _)

theorem cmp_Or_int_c {p0 : (List Int)} {r : Int} (hm : cmp_Or_int p0 = some r) : RetN Tryz.prog 148 [.sl 1 (p0.map (D.int .i64))] (.int .i64 r) := by
 refine .unit (ret_bodyS callB148 Tryz.func148 rfl Tryz.ntmps148 rfl rfl (fun wX gX => ?_)) rfl
 unfold cmp_Or_int at hm
 refine WN [0] rfl rfl (RS (SA TK rfl (TN (WN [0] rfl rfl (RS (SA TK rfl (TN (WN [0, 3] rfl rfl ?_))))))))
 refine w_joinS hm (fun _ => ([] : Fr)) (fun _ => ([] : List (Nat × Blk))) [] [3] rfl (fun z1 hm hz1 => ?_) (fun j hm => ?_)
 ·refine RS (SA TK rfl (SX rfl rfl (x_len TK rfl rfl rfl) (SA TK rfl (TN (WN [3, 6, 7, 8] rfl rfl (TB (w_loop hm (fun x3 => ([(8, .d (.int .i64 x3))] : Fr)) (fun x3 => ([] : List (Nat × Blk))) [8] [3, 6, 7] [] rfl k0 rfl rfl rfl rfl rfl (fun x3 z4 hm hz4 => (WN [3, 6, 7, 8] rfl rfl ?_)))))))))
  refine RS (SA TK rfl (TN (WN [3, 6, 7, 8, 9] rfl rfl (TQ ?_))))
  refine TC _ rfl (fun h5 => ?_) (fun h5 => ?_)
  ·replace hm := JT h5 hm
   refine TS (WT (WN [3, 6, 7, 8] rfl rfl (TQ (TB (RS ?_)))))
   obtain ⟨e6, he6, hm⟩ := GV hm
   refine SX rfl rfl (x_ix TK rfl rfl rfl rfl he6) (SA TK rfl (SA TK rfl (TN (WN [3, 5, 6, 7, 8] rfl rfl (RS (SA TK rfl (SA TK rfl (SA TK rfl (TN (WN [3, 5, 6, 7, 8, 14] rfl rfl ?_))))))))))
   refine TC _ rfl (fun h7 => ?_) (fun h7 => ?_)
   ·replace hm := iteN_T h7 hm
    refine RS (SA TK rfl (SA TK rfl (TN (WN [2] rfl rfl (TR (WB (WR ?_)))))))
    obtain ⟨v8, hm, hz⟩ := II hm
    rw [hz4 _ hz] at hm
    refine WR (WB ?_)
    obtain ⟨v9, hm, hz⟩ := II hm
    rw [hz1 _ hz] at hm
    refine WR ?_
    obtain rfl := OJ hm
    exact EndsS.one _ rfl (.d _) (.refl _)
   ·replace hm := iteN_F h7 hm
    refine TS (WK (WT (WN [3, 6, 7, 8] rfl rfl (TG ?_))))
    obtain ⟨g10, hm⟩ := GI hm
    refine SX rfl rfl (x_ar rfl rfl rfl rfl g10) (SA TK rfl (TN (WT ?_)))
    exact ⟨_, [], (SJ hm), rfl, k0, rfl⟩
  ·replace hm := JF h5 hm
   refine twp_exit (WX ?_)
   obtain ⟨v11, hm, hz⟩ := II hm
   rw [hz4 _ hz] at hm
   refine WX (WH (WT ?_))
   exact ⟨_, [], (SJ hm), rfl, k0, rfl⟩
 ·refine WN [3] rfl rfl (RS (SA TK rfl (SA TK rfl (TN (WN [2] rfl rfl (TR ?_))))))
  obtain rfl := OJ hm
  exact EndsS.one _ rfl (.d _) (.refl _)

theorem table_Settings_c1_c {p0 : Setting} {p1 : Setting} {r : Int} (hm : table_Settings_c1 p0 p1 = some r) : RetN Tryz.prog 147 [p0.enc, p1.enc] (.int .i64 r) := by
 refine .unit (ret_bodyS callB147 Tryz.func147 rfl Tryz.ntmps147 rfl rfl (fun wX gX => ?_)) rfl
 unfold table_Settings_c1 at hm
 refine WN [0, 1] rfl rfl (RS (s_bx 0 rfl rfl rfl (s_bx 1 rfl rfl rfl (SA TK rfl (TN (WN [2, 3] rfl rfl (twp_dseq follows  ?_)))))))
 iterate 4 (refine DA [0, 1] TK rfl ?_)
 obtain ⟨r1, hr1, hm⟩ := BI hm
 refine DX [0, 1] rfl rfl (RN rfl rfl (SC (.d _) (SC (.d _) SN)) (cmp_Compare_int_c hr1)) ?_
 iterate 4 (refine DA [0, 1] TK rfl ?_)
 obtain ⟨r2, hr2, hm⟩ := BI hm
 refine DX [0, 1] rfl rfl (RN rfl rfl (SC (.d _) (SC (.d _) SN)) (cmp_Compare_int_c hr2)) (DX [0, 1] rfl rfl (x_lit [.tmp 9, .tmp 14] TK rfl rfl zero3 rfl rfl rfl rfl rfl) ?_)
 obtain ⟨r3, hr3, hm⟩ := BI hm
 refine DX [0, 1] rfl rfl (RN rfl rfl (SC (.d _) SN) (cmp_Or_int_c hr3)) ?_
 refine DT ?_ (by kernel_rfl)
 refine SA TK rfl (TN (WN [4] rfl rfl (TR ?_)))
 obtain rfl := OJ hm
 exact EndsS.one _ rfl (.d _) (.refl _)

theorem table_Settings_c {p0 : Route} {r : (List Setting)} (hm : table_Settings p0 = some r) : RetD Tryz.prog 94 [p0.enc] (.sl 2 (r.map Setting.enc)) := by
 refine .of (mv := fun _ => false) (ret_bodyS callB94 Tryz.func94 rfl Tryz.ntmps94 rfl rfl (fun wX gX => ?_))
 unfold table_Settings at hm
 refine WN [0] rfl rfl (RS (s_bx 0 rfl rfl rfl (SA TK rfl (TN (WN [1] rfl rfl (RS ?_))))))
 iterate 6 (refine SA TK rfl ?_)
 refine SX rfl rfl (x_lit [.tmp 8, .tmp 10, .tmp 12] TK rfl rfl zero71 rfl rfl rfl rfl rfl) ?_
 obtain ⟨r1, hr1, hm⟩ := BI hm
 refine s_callD rfl rfl rfl (slices_Concat_Setting_row hr1) rfl rfl (s_eq 14 (.msl 1 2 0 r1.length) rfl rfl (SA TK rfl (TN (WN [3] rfl rfl (RS (SA TK rfl ?_))))))
 obtain ⟨g2, hm⟩ := GI hm
 refine s_callW [1] rfl rfl rfl (by simp) rfl rfl rfl (slices_SortFunc_Setting_c table_Settings_c1_sort rfl (fun _ _ _ h => (table_Settings_c1_c h).retD) r1 g2) rfl rfl ?_
 refine s_lno 3 (sortM table_Settings_c1 r1).length rfl (sortM_length _).symm (s_lno 15 (sortM table_Settings_c1 r1).length rfl (sortM_length _).symm (TN (WN [3] rfl rfl (RS (s_nilO (f := Setting.enc) 2 133 2 rfl rfl rfl (TN (WN [3, 4] rfl rfl ?_)))))))
 refine w_joinM hm (fun b3 => ([(4, .msl 2 2 0 b3.length)] : Fr)) (fun b3 => ([(2, .flat 133 2 (b3.map Setting.enc))] : List (Nat × Blk))) [4] [] rfl (fun z4 hm => ?_) (fun b3 hm => ?_)
 ·refine RS (SA TK rfl (SA TK rfl (SA TK rfl (TN (WN [3, 4, 17, 18, 19] rfl rfl (TB (w_loop hm (fun (x8, b9) => ([(4, .msl 2 2 0 b9.length), (19, .d (.int .i64 x8))] : Fr)) (fun (x8, b9) => ([(2, .flat 133 2 (b9.map Setting.enc))] : List (Nat × Blk))) [4, 19] [3, 17, 18] [0, 1, 2] rfl k0 rfl rfl rfl rfl rfl (fun s z10 hm hz10 => ?_))))))))
  obtain ⟨x8, b9⟩ := s
  refine WN [3, 4, 17, 18, 19] rfl rfl (RS (SA TK rfl (TN (WN [3, 4, 17, 18, 19, 20] rfl rfl (TQ ?_)))))
  refine TC _ rfl (fun h11 => ?_) (fun h11 => ?_)
  ·replace hm := JT h11 hm
   refine TS (WT (WN [3, 4, 17, 18, 19] rfl rfl (TQ (TB (RS (SA TK rfl ?_))))))
   obtain ⟨e12, he12, hm⟩ := GV hm
   refine SX rfl rfl (x_ixo TK rfl rfl rfl rfl he12 rfl) (SX rfl rfl (x_ldo TK rfl rfl rfl rfl he12.2 rfl) (s_al 3 rfl rfl zero133 rfl (SA TK rfl (SA TK rfl (TN (WN [3, 4, 5, 6, 17, 18, 19] rfl rfl ?_))))))
   refine w_joinM hm (fun x13 => ([(34, .d (.bool (x13)))] : Fr)) (fun x13 => ([] : List (Nat × Blk))) [34] [3, 4, 6, 17, 18, 19] rfl (fun z14 hm => ?_) (fun x13 hm => ?_)
   ·refine twp_draw follows  ?_
    iterate 2 (refine DA [0, 1, 2, 3] TK rfl ?_)
    refine d_b [0, 1, 2, 3] TK rfl (fun q15 hq15 => ?_)
    cases q15
    ·replace hm := JF hq15 hm
     iterate 3 (refine DA [0, 1, 2, 3] TK rfl ?_)
     obtain ⟨g16, hm⟩ := GI hm
     refine DX [0, 1, 2, 3] rfl rfl (x_ar rfl rfl rfl rfl g16) ?_
     obtain ⟨e17, he17, hm⟩ := GV hm
     refine DX [0, 1, 2, 3] rfl rfl (x_ixo TK rfl rfl rfl rfl he17 rfl) (DX [0, 1, 2, 3] rfl rfl (x_ldo TK rfl rfl rfl rfl he17.2 rfl) ?_)
     obtain ⟨g18, hm⟩ := GI hm
     refine DX [0, 1, 2, 3] rfl rfl (Setting_ne rfl rfl rfl g18.1 g18.2) (DA [0, 1, 2, 3] TK rfl ?_)
     refine DT ?_ (by kernel_rfl)
     refine TN (WT ?_)
     exact ⟨_, [0, 1, 2, 3], (SJ hm), rfl, k0, rfl⟩
    ·replace hm := JT hq15 hm
     iterate 8 (refine DA [0, 1, 2, 3] TK rfl ?_)
     refine DT ?_ (by kernel_rfl)
     refine TN (WT ?_)
     exact ⟨_, [0, 1, 2, 3], (SJ hm), rfl, k0, rfl⟩
   ·refine WN [3, 4, 6, 17, 18, 19, 34] rfl rfl ?_
    refine TC _ rfl (fun h20 => ?_) (fun h20 => ?_)
    ·replace hm := JA h20 hm
     refine TG (SA TK rfl (SA TK rfl (SX rfl rfl (x_lit [.tmp 36] TK rfl rfl zero133 rfl rfl rfl rfl rfl) ?_)))
     obtain ⟨g21, hm⟩ := GI hm
     refine s_app (f := Setting.enc) ([e12] : List Setting) TK rfl rfl zero133 rfl rfl rfl rfl rfl (fun h => absurd h (Nat.not_lt_zero _)) rfl src_d g21 rfl rfl (SA TK rfl (TN (WK (WT (WN [3, 4, 17, 18, 19] rfl rfl (TG ?_))))))
     obtain ⟨g22, hm⟩ := GI hm
     refine SX rfl rfl (x_ar rfl rfl rfl rfl g22) (SA TK rfl (TN (WT ?_)))
     exact ⟨_, [0, 1, 2], (SJ hm), rfl, k0, rfl⟩
    ·replace hm := JB h20 hm
     refine TS (WK (WT (WN [3, 4, 17, 18, 19] rfl rfl (TG ?_))))
     obtain ⟨g23, hm⟩ := GI hm
     refine SX rfl rfl (x_ar rfl rfl rfl rfl g23) (SA TK rfl (TN (WT ?_)))
     exact ⟨_, [0, 1, 2], (SJ hm), rfl, k0, rfl⟩
  ·replace hm := JF h11 hm
   refine twp_exit (WX ?_)
   obtain ⟨v24, hm, hz⟩ := II hm
   rw [hz10 _ hz] at hm
   refine WX (WH (WT ?_))
   exact ⟨_, [0, 1, 2], (SJ hm), rfl, k0, rfl⟩
 ·refine WN [4] rfl rfl (RS (SA TK rfl (SA TK rfl (TN (WN [2] rfl rfl (TR ?_))))))
  obtain rfl := OJ hm
  exact EndsS.one _ rfl (snap_map rfl) (.refl _)

theorem compile_numbering_points_c {p0 : Numbering} {p1 : Int} {p2 : Int} {r : Int} (hm : compile_numbering_points p0 p1 p2 = some r) : RetN Tryz.prog 142 [p0.enc, .int .i64 p1, .int .i64 p2] (.int .i64 r) := by
 refine .unit (ret_bodyS callB142 Tryz.func142 rfl Tryz.ntmps142 rfl rfl (fun wX gX => ?_)) rfl
 unfold compile_numbering_points at hm
 refine WN [0, 1, 2] rfl rfl (RS (s_bx 0 rfl rfl rfl (SA TK rfl (TN (WN [1, 2, 3] rfl rfl (RS (SA TK rfl (SA TK rfl (SA TK rfl ?_)))))))))
 obtain ⟨g1, hm⟩ := GI hm
 refine SX rfl rfl (x_ar rfl rfl rfl rfl g1) (SA TK rfl ?_)
 obtain ⟨g2, hm⟩ := GI hm
 refine SX rfl rfl (x_ar rfl rfl rfl rfl g2) ?_
 obtain ⟨g3, hm⟩ := GI hm
 refine SX rfl rfl (x_ar rfl rfl rfl rfl g3) (SA TK rfl ?_)
 obtain ⟨g4, hm⟩ := GI hm
 refine SX rfl rfl (x_ar rfl rfl rfl rfl g4) (SA TK rfl (TN (WN [6] rfl rfl (TR ?_))))
 obtain rfl := OJ hm
 exact EndsS.one _ rfl (.d _) (.refl _)

theorem conflict_Follows_c {p0 : Route} {p1 : Route} {r : Bool} (hm : conflict_Follows p0 p1 = some r) : RetN Tryz.prog 162 [p0.enc, p1.enc] (.bool (r)) := by
 refine .unit (ret_bodyS callB162 Tryz.func162 rfl Tryz.ntmps162 rfl rfl (fun wX gX => ?_)) rfl
 unfold conflict_Follows at hm
 refine WN [0, 1] rfl rfl (RS (s_bx 0 rfl rfl rfl (s_bx 1 rfl rfl rfl (SA TK rfl (TN (WN [2, 3] rfl rfl ?_))))))
 refine w_cut [(4, .d (.bool (((decide ((0 : Int) ≤ p0.exit)) && (decide (p1.entry = p0.exit))))))] [4] [] rfl ?_ ?_
 ·refine TG (SA TK rfl (SA TK rfl (SA TK rfl (SB TK rfl (fun q1 hq1 => ?_)))))
  cases q1
  ·iterate 7 (refine SA TK rfl ?_)
   refine TN (WT ?_)
   exact ⟨[0, 1], rfl, k0, st_eq (fr_cons (av_bool (by simp [hq1])) rfl) rfl⟩
  ·iterate 7 (refine SA TK rfl ?_)
   refine TN (WT ?_)
   exact ⟨[0, 1], rfl, k0, st_eq (fr_cons (av_bool (by simp [hq1])) rfl) rfl⟩
 ·refine WN [4] rfl rfl (TR ?_)
  obtain rfl := OJ hm
  exact EndsS.one _ rfl (.d _) (.refl _)

theorem slices_Contains_int_c {p0 : (List Int)} {p1 : Int} {r : Bool} (hm : slices_Contains_int p0 p1 = some r) : RetN Tryz.prog 57 [.sl 1 (p0.map (D.int .i64)), .int .i64 p1] (.bool (r)) := by
 refine .unit (ret_bodyS callB57 Tryz.func57 rfl Tryz.ntmps57 rfl rfl (fun wX gX => ?_)) rfl
 unfold slices_Contains_int at hm
 refine WN [0, 1] rfl rfl (RS (SA TK rfl (TN (WN [0, 1] rfl rfl (RS (SA TK rfl (SA TK rfl ?_)))))))
 obtain ⟨r1, hr1, hm⟩ := BI hm
 refine SX rfl rfl (RN rfl rfl (SC (.d _) (SC (.d _) SN)) (slices_Index_int_c hr1)) (SA TK rfl (SA TK rfl (TN (WN [4] rfl rfl (TR ?_)))))
 obtain rfl := OJ hm
 exact EndsS.one _ rfl (.d _) (.refl _)

theorem slices_Index_Setting_c {p0 : (List Setting)} {p1 : Setting} {r : Int} (hm : slices_Index_Setting p0 p1 = some r) : RetN Tryz.prog 188 [.sl 2 (p0.map Setting.enc), p1.enc] (.int .i64 r) := by
 refine .unit (ret_bodyS callB188 Tryz.func188 rfl Tryz.ntmps188 rfl rfl (fun wX gX => ?_)) rfl
 unfold slices_Index_Setting at hm
 refine WN [0, 1] rfl rfl (RS (s_bx 0 rfl rfl rfl (SA TK rfl (TN (WN [0, 3] rfl rfl ?_)))))
 refine w_joinS hm (fun _ => ([] : Fr)) (fun _ => ([] : List (Nat × Blk))) [] [] rfl (fun z1 hm hz1 => ?_) (fun j hm => ?_)
 ·refine RS (SA TK rfl (SX rfl rfl (x_len TK rfl rfl rfl) (SA TK rfl (TN (WN [0, 3, 7, 8] rfl rfl (TB (w_loop hm (fun x3 => ([(8, .d (.int .i64 x3))] : Fr)) (fun x3 => ([] : List (Nat × Blk))) [8] [0, 3, 7] [0] rfl k0 rfl rfl rfl rfl rfl (fun x3 z4 hm hz4 => (WN [0, 3, 7, 8] rfl rfl ?_)))))))))
  refine RS (SA TK rfl (TN (WN [0, 3, 7, 8, 9] rfl rfl (TQ ?_))))
  refine TC _ rfl (fun h5 => ?_) (fun h5 => ?_)
  ·replace hm := JT h5 hm
   refine TS (WT (WN [0, 3, 7, 8] rfl rfl (TQ (TB (RS (SA TK rfl (SA TK rfl (TN (WN [0, 3, 5, 7, 8] rfl rfl ?_)))))))))
   refine twp_dseq follows  ?_
   iterate 3 (refine DA [0] TK rfl ?_)
   obtain ⟨e6, he6, hm⟩ := GV hm
   refine DX [0] rfl rfl (x_ix TK rfl rfl rfl rfl he6) (DA [0] TK rfl ?_)
   obtain ⟨g7, hm⟩ := GI hm
   refine DX [0] rfl rfl (Setting_eq rfl rfl rfl g7.1 g7.2) ?_
   refine DT ?_ (by kernel_rfl)
   refine TN (WN [0, 3, 5, 7, 8, 16] rfl rfl ?_)
   refine TC _ rfl (fun h9 => ?_) (fun h9 => ?_)
   ·replace hm := JT h9 hm
    refine RS (SA TK rfl (SA TK rfl (TN (WN [4] rfl rfl (TR (WB (WR ?_)))))))
    obtain ⟨v10, hm, hz⟩ := II hm
    rw [hz4 _ hz] at hm
    refine WR (WB ?_)
    obtain ⟨v11, hm, hz⟩ := II hm
    rw [hz1 _ hz] at hm
    refine WR ?_
    obtain rfl := OJ hm
    exact EndsS.one _ rfl (.d _) (.refl _)
   ·replace hm := JF h9 hm
    refine TS (WK (WT (WN [0, 3, 7, 8] rfl rfl (TG ?_))))
    obtain ⟨g12, hm⟩ := GI hm
    refine SX rfl rfl (x_ar rfl rfl rfl rfl g12) (SA TK rfl (TN (WT ?_)))
    exact ⟨_, [0], (SJ hm), rfl, k0, rfl⟩
  ·replace hm := JF h5 hm
   refine twp_exit (WX ?_)
   obtain ⟨v13, hm, hz⟩ := II hm
   rw [hz4 _ hz] at hm
   refine WX (WH (WT ?_))
   exact ⟨_, [0], (SJ hm), rfl, k0, rfl⟩
 ·refine WN [] rfl rfl (RS (SA TK rfl (TN (WN [4] rfl rfl (TR ?_)))))
  obtain rfl := OJ hm
  exact EndsS.one _ rfl (.d _) (.refl _)

theorem slices_Contains_Setting_c {p0 : (List Setting)} {p1 : Setting} {r : Bool} (hm : slices_Contains_Setting p0 p1 = some r) : RetN Tryz.prog 171 [.sl 2 (p0.map Setting.enc), p1.enc] (.bool (r)) := by
 refine .unit (ret_bodyS callB171 Tryz.func171 rfl Tryz.ntmps171 rfl rfl (fun wX gX => ?_)) rfl
 unfold slices_Contains_Setting at hm
 refine WN [0, 1] rfl rfl (RS (s_bx 0 rfl rfl rfl (SA TK rfl (TN (WN [0, 3] rfl rfl (RS (SA TK rfl (SA TK rfl ?_))))))))
 obtain ⟨r1, hr1, hm⟩ := BI hm
 refine SX rfl rfl (RN rfl rfl (SC (.d _) (SC (.d _) SN)) (slices_Index_Setting_c hr1)) (SA TK rfl (SA TK rfl (TN (WN [4] rfl rfl (TR ?_)))))
 obtain rfl := OJ hm
 exact EndsS.one _ rfl (.d _) (.refl _)

theorem compile_numbering_lie_c {p0 : Numbering} {p1 : Int} {r : Int} (hm : compile_numbering_lie p0 p1 = some r) : RetN Tryz.prog 37 [p0.enc, .int .i64 p1] (.int .i64 r) := by
 refine .unit (ret_bodyS callB37 Tryz.func37 rfl Tryz.ntmps37 rfl rfl (fun wX gX => ?_)) rfl
 unfold compile_numbering_lie at hm
 refine WN [0, 1] rfl rfl (RS (s_bx 0 rfl rfl rfl (SA TK rfl (TN (WN [1, 2] rfl rfl (RS (SA TK rfl (SA TK rfl (SA TK rfl ?_)))))))))
 obtain ⟨g1, hm⟩ := GI hm
 refine SX rfl rfl (x_ar rfl rfl rfl rfl g1) (SA TK rfl (TN (WN [4] rfl rfl (TR ?_))))
 obtain rfl := OJ hm
 exact EndsS.one _ rfl (.d _) (.refl _)

theorem strconv_Itoa_c {p0 : Int} {r : ByteArray} (hm : strconv_Itoa p0 = some r) : RetN Tryz.prog 97 [.int .i64 p0] (.str r) := by
 unfold strconv_Itoa at hm
 obtain ⟨h, hm⟩ := GI hm
 obtain rfl := OJ hm
 obtain ⟨i, rfl⟩ := Int.eq_ofNat_of_zero_le h.1
 exact itoa97_small i (by omega)

end Go.Proofs.YtcagmechagiclaaGreatDoor

set_option maxHeartbeats 8000000
set_option linter.unusedSimpArgs false
set_option linter.unusedVariables false
set_option maxRecDepth 20000
namespace Go.Proofs.YtcagmechagiclaaGreatDoor
open Go Go.TL

theorem compile_numbering_names_c1_c {p0 : Int} {p1 : (List ByteArray)} {p2 : (List ByteArray)} {r : (List ByteArray)} (hm : compile_numbering_names_c1 p0 p1 p2 = some r) : Ret Tryz.prog 96 [.box 28 [.msl 1 1 0 p2.length], .flat 9 1 (p2.map D.str)] (fun j => Nat.beq j 1) [.d (.int .i64 p0), .d (.sl 1 (p1.map D.str)), .mptr 0 0 0 0] (.tup []) [.box 28 [.msl 1 1 0 r.length], .flat 9 1 (r.map D.str)] := by
 refine ret_body callB96 Tryz.func96 rfl Tryz.ntmps96 rfl rfl (fun wX gX => ?_)
 unfold compile_numbering_names_c1 at hm
 refine WN [0, 1, 2] rfl rfl (RS (SA TK rfl (SX rfl rfl (x_len TK rfl rfl rfl) (SA TK rfl (TN (WN [0, 2, 7, 8, 9] rfl rfl (TB (w_loop hm (fun (x4, b5) => ([(9, .d (.int .i64 x4))] : Fr)) (fun (x4, b5) => ([(0, .box 28 [.msl 1 1 0 b5.length]), (1, .flat 9 1 (b5.map D.str))] : List (Nat × Blk))) [9] [0, 2, 7, 8] [0, 1] rfl (kB rfl) rfl rfl rfl rfl rfl (fun s z6 hm hz6 => ?_)))))))))
 obtain ⟨x4, b5⟩ := s
 refine WN [0, 2, 7, 8, 9] rfl rfl (RS (SA TK rfl (TN (WN [0, 2, 7, 8, 9, 10] rfl rfl (TQ ?_)))))
 refine TC _ rfl (fun h7 => ?_) (fun h7 => ?_)
 ·replace hm := JT h7 hm
  refine TS (WT (WN [0, 2, 7, 8, 9] rfl rfl (TQ (TB (RS ?_)))))
  obtain ⟨e8, he8, hm⟩ := GV hm
  refine SX rfl rfl (x_ix TK rfl rfl rfl rfl he8) (SA TK rfl (SA TK rfl (TN (WN [0, 2, 6, 7, 8, 9] rfl rfl (twp_draw follows  ?_)))))
  iterate 2 (refine DA [0, 1] TK rfl ?_)
  obtain ⟨g9, hm⟩ := GI hm
  refine DX [0, 1] rfl rfl (x_cat rfl rfl rfl g9) (DA [0, 1] TK rfl ?_)
  obtain ⟨r10, hr10, hm⟩ := BI hm
  refine DX [0, 1] rfl rfl (RN rfl rfl (SC (.d _) SN) (strconv_Itoa_c hr10)) ?_
  obtain ⟨g11, hm⟩ := GI hm
  refine DX [0, 1] rfl rfl (x_cat rfl rfl rfl g11) (DX [0, 1] rfl rfl (x_lit [.tmp 18] TK rfl rfl zero9 rfl rfl rfl rfl rfl) ?_)
  refine DT ?_ (by kernel_rfl)
  obtain ⟨g12, hm⟩ := GI hm
  refine s_app (f := D.str) ([((e8 ++ (⟨#[46]⟩ : ByteArray)) ++ r10)] : List ByteArray) TK rfl rfl zero9 rfl rfl rfl rfl rfl (fun _ => rfl) rfl src_d g12 rfl rfl (SA TK rfl (TN (WK (WT (WN [0, 2, 7, 8, 9] rfl rfl (TG ?_))))))
  obtain ⟨g13, hm⟩ := GI hm
  refine SX rfl rfl (x_ar rfl rfl rfl rfl g13) (SA TK rfl (TN (WT ?_)))
  exact ⟨_, [0, 1], (SJ hm), rfl, (kB rfl), rfl⟩
 ·replace hm := JF h7 hm
  refine twp_exit (WX ?_)
  obtain ⟨v14, hm, hz⟩ := II hm
  rw [hz6 _ hz] at hm
  refine WX (WH ?_)
  obtain rfl := OJ hm
  exact ⟨_, [0, 1], res rfl, by decide, (kB rfl), rfl, rfl⟩

theorem compile_numbering_names_c {p0 : Numbering} {r : (List ByteArray)} (hm : compile_numbering_names p0 = some r) : RetD Tryz.prog 42 [p0.enc] (.sl 1 (r.map D.str)) := by
 refine .of (mv := fun _ => false) (ret_bodyS callB42 Tryz.func42 rfl Tryz.ntmps42 rfl rfl (fun wX gX => ?_))
 unfold compile_numbering_names at hm
 refine WN [0] rfl rfl (RS (s_bx 0 rfl rfl rfl (SA TK rfl (TN (WN [1] rfl rfl (RS (s_al 1 rfl rfl zero28 rfl (s_upB (f := D.str) 1 0 2 9 1 rfl rfl rfl ?_))))))))
 refine TN (WN [1, 3] rfl rfl (RS (SX rfl rfl (rd_makeFunc rfl) (SA TK rfl (TN (WN [1, 3, 4] rfl rfl ?_))))))
 refine w_joinM hm (fun b1 => ([] : Fr)) (fun b1 => ([(1, .box 28 [.msl 2 1 0 b1.length]), (2, .flat 9 1 (b1.map D.str))] : List (Nat × Blk))) [] [1, 3, 4] rfl (fun z2 hm => ?_) (fun b1 hm => ?_)
 ·refine RS ?_
  iterate 4 (refine SA TK rfl ?_)
  refine TN (WN [1, 3, 4, 15, 16] rfl rfl (TB (w_loop hm (fun (x6, b7) => ([(16, .d (.int .i64 x6))] : Fr)) (fun (x6, b7) => ([(1, .box 28 [.msl 2 1 0 b7.length]), (2, .flat 9 1 (b7.map D.str))] : List (Nat × Blk))) [16] [1, 3, 4, 15] [0, 1, 2] rfl k0 rfl rfl rfl rfl rfl (fun s z8 hm hz8 => ?_))))
  obtain ⟨x6, b7⟩ := s
  refine WN [1, 3, 4, 15, 16] rfl rfl (RS (SA TK rfl (TN (WN [1, 3, 4, 15, 16, 17] rfl rfl (TQ ?_)))))
  refine TC _ rfl (fun h9 => ?_) (fun h9 => ?_)
  ·replace hm := JT h9 hm
   refine TS (WT (WN [1, 3, 4, 15, 16] rfl rfl (TQ (TB (RS (SA TK rfl (SA TK rfl (TN (WN [1, 3, 4, 5, 15, 16] rfl rfl ?_)))))))))
   refine TG (SA TK rfl (SA TK rfl (SX rfl rfl (x_lit [.const (Value.string ⟨#[102, 114, 101, 101]⟩), .const (Value.string ⟨#[111, 112, 101, 110]⟩)] TK rfl rfl zero9 rfl rfl rfl rfl rfl) ?_)))
   obtain ⟨r10, hr10, hm⟩ := BI hm
   refine s_callM [1, 2] (fun j => Nat.beq j 1) rfl rfl rfl (by decide) rfl rfl rfl rfl (compile_numbering_names_c1_c hr10) rfl rfl rfl ?_
   refine TN (WK (WT (WN [1, 3, 4, 15, 16] rfl rfl (TG ?_))))
   obtain ⟨g11, hm⟩ := GI hm
   refine SX rfl rfl (x_ar rfl rfl rfl rfl g11) (SA TK rfl (TN (WT ?_)))
   exact ⟨_, [0, 1, 2], (SJ hm), rfl, k0, rfl⟩
  ·replace hm := JF h9 hm
   refine twp_exit (WX ?_)
   obtain ⟨v12, hm, hz⟩ := II hm
   rw [hz8 _ hz] at hm
   refine WX (WH (WT ?_))
   exact ⟨_, [0, 1, 2], (SJ hm), rfl, k0, rfl⟩
 ·refine WN [1, 3, 4] rfl rfl ?_
  refine w_joinM hm (fun b13 => ([] : Fr)) (fun b13 => ([(1, .box 28 [.msl 2 1 0 b13.length]), (2, .flat 9 1 (b13.map D.str))] : List (Nat × Blk))) [] [1, 3, 4] rfl (fun z14 hm => ?_) (fun b13 hm => ?_)
  ·refine RS (SA TK rfl (SA TK rfl (SA TK rfl (SX rfl rfl (x_len TK rfl rfl rfl) (SA TK rfl (TN (WN [1, 3, 4, 27, 28] rfl rfl (TB (w_loop hm (fun (x18, b19) => ([(28, .d (.int .i64 x18))] : Fr)) (fun (x18, b19) => ([(1, .box 28 [.msl 2 1 0 b19.length]), (2, .flat 9 1 (b19.map D.str))] : List (Nat × Blk))) [28] [1, 3, 4, 27] [0, 1, 2] rfl k0 rfl rfl rfl rfl rfl (fun s z20 hm hz20 => ?_))))))))))
   obtain ⟨x18, b19⟩ := s
   refine WN [1, 3, 4, 27, 28] rfl rfl (RS (SA TK rfl (TN (WN [1, 3, 4, 27, 28, 29] rfl rfl (TQ ?_)))))
   refine TC _ rfl (fun h21 => ?_) (fun h21 => ?_)
   ·replace hm := JT h21 hm
    refine TS (WT (WN [1, 3, 4, 27, 28] rfl rfl (TQ (TB (RS (SA TK rfl (SA TK rfl (TN (WN [1, 3, 4, 6, 27, 28] rfl rfl ?_)))))))))
    refine TG (SA TK rfl (SA TK rfl (SX rfl rfl (x_lit [.const (Value.string ⟨#[110, 111, 114, 109, 97, 108]⟩), .const (Value.string ⟨#[114, 101, 118, 101, 114, 115, 101]⟩)] TK rfl rfl zero9 rfl rfl rfl rfl rfl) ?_)))
    obtain ⟨r22, hr22, hm⟩ := BI hm
    refine s_callM [1, 2] (fun j => Nat.beq j 1) rfl rfl rfl (by decide) rfl rfl rfl rfl (compile_numbering_names_c1_c hr22) rfl rfl rfl ?_
    refine TN (WK (WT (WN [1, 3, 4, 27, 28] rfl rfl (TG ?_))))
    obtain ⟨g23, hm⟩ := GI hm
    refine SX rfl rfl (x_ar rfl rfl rfl rfl g23) (SA TK rfl (TN (WT ?_)))
    exact ⟨_, [0, 1, 2], (SJ hm), rfl, k0, rfl⟩
   ·replace hm := JF h21 hm
    refine twp_exit (WX ?_)
    obtain ⟨v24, hm, hz⟩ := II hm
    rw [hz20 _ hz] at hm
    refine WX (WH (WT ?_))
    exact ⟨_, [0, 1, 2], (SJ hm), rfl, k0, rfl⟩
  ·refine WN [1, 3, 4] rfl rfl ?_
   refine w_joinM hm (fun b25 => ([] : Fr)) (fun b25 => ([(1, .box 28 [.msl 2 1 0 b25.length]), (2, .flat 9 1 (b25.map D.str))] : List (Nat × Blk))) [] [1, 3, 4] rfl (fun z26 hm => ?_) (fun b25 hm => ?_)
   ·refine RS (SA TK rfl (SA TK rfl (SA TK rfl (SX rfl rfl (x_len TK rfl rfl rfl) (SA TK rfl (TN (WN [1, 3, 4, 39, 40] rfl rfl (TB (w_loop hm (fun (x30, b31) => ([(40, .d (.int .i64 x30))] : Fr)) (fun (x30, b31) => ([(1, .box 28 [.msl 2 1 0 b31.length]), (2, .flat 9 1 (b31.map D.str))] : List (Nat × Blk))) [40] [1, 3, 4, 39] [0, 1, 2] rfl k0 rfl rfl rfl rfl rfl (fun s z32 hm hz32 => ?_))))))))))
    obtain ⟨x30, b31⟩ := s
    refine WN [1, 3, 4, 39, 40] rfl rfl (RS (SA TK rfl (TN (WN [1, 3, 4, 39, 40, 41] rfl rfl (TQ ?_)))))
    refine TC _ rfl (fun h33 => ?_) (fun h33 => ?_)
    ·replace hm := JT h33 hm
     refine TS (WT (WN [1, 3, 4, 39, 40] rfl rfl (TQ (TB (RS (SA TK rfl (SA TK rfl (TN (WN [1, 3, 4, 7, 39, 40] rfl rfl ?_)))))))))
     refine TG (SA TK rfl (SA TK rfl (SX rfl rfl (x_lit [.const (Value.string ⟨#[117, 110, 99, 108, 97, 105, 109, 101, 100]⟩), .const (Value.string ⟨#[112, 97, 115, 115, 101, 100]⟩), .const (Value.string ⟨#[99, 97, 108, 108]⟩), .const (Value.string ⟨#[99, 97, 110, 99, 101, 108]⟩)] TK rfl rfl zero9 rfl rfl rfl rfl rfl) ?_)))
     obtain ⟨r34, hr34, hm⟩ := BI hm
     refine s_callM [1, 2] (fun j => Nat.beq j 1) rfl rfl rfl (by decide) rfl rfl rfl rfl (compile_numbering_names_c1_c hr34) rfl rfl rfl ?_
     refine TN (WK (WT (WN [1, 3, 4, 39, 40] rfl rfl (TG ?_))))
     obtain ⟨g35, hm⟩ := GI hm
     refine SX rfl rfl (x_ar rfl rfl rfl rfl g35) (SA TK rfl (TN (WT ?_)))
     exact ⟨_, [0, 1, 2], (SJ hm), rfl, k0, rfl⟩
    ·replace hm := JF h33 hm
     refine twp_exit (WX ?_)
     obtain ⟨v36, hm, hz⟩ := II hm
     rw [hz32 _ hz] at hm
     refine WX (WH (WT ?_))
     exact ⟨_, [0, 1, 2], (SJ hm), rfl, k0, rfl⟩
   ·refine WN [1, 3, 4] rfl rfl ?_
    refine w_joinM hm (fun b37 => ([] : Fr)) (fun b37 => ([(1, .box 28 [.msl 2 1 0 b37.length]), (2, .flat 9 1 (b37.map D.str))] : List (Nat × Blk))) [] [1, 3, 4] rfl (fun z38 hm => ?_) (fun b37 hm => ?_)
    ·refine RS (SA TK rfl (SA TK rfl (SA TK rfl (SX rfl rfl (x_len TK rfl rfl rfl) (SA TK rfl (TN (WN [1, 3, 4, 51, 52] rfl rfl (TB (w_loop hm (fun (x42, b43) => ([(52, .d (.int .i64 x42))] : Fr)) (fun (x42, b43) => ([(1, .box 28 [.msl 2 1 0 b43.length]), (2, .flat 9 1 (b43.map D.str))] : List (Nat × Blk))) [52] [1, 3, 4, 51] [0, 1, 2] rfl k0 rfl rfl rfl rfl rfl (fun s z44 hm hz44 => ?_))))))))))
     obtain ⟨x42, b43⟩ := s
     refine WN [1, 3, 4, 51, 52] rfl rfl (RS (SA TK rfl (TN (WN [1, 3, 4, 51, 52, 53] rfl rfl (TQ ?_)))))
     refine TC _ rfl (fun h45 => ?_) (fun h45 => ?_)
     ·replace hm := JT h45 hm
      refine TS (WT (WN [1, 3, 4, 51, 52] rfl rfl (TQ (TB (RS (SA TK rfl (SA TK rfl (TN (WN [1, 3, 4, 8, 51, 52] rfl rfl ?_)))))))))
      refine TG (SA TK rfl (SA TK rfl (SX rfl rfl (x_lit [.const (Value.string ⟨#[108, 105, 101]⟩)] TK rfl rfl zero9 rfl rfl rfl rfl rfl) ?_)))
      obtain ⟨r46, hr46, hm⟩ := BI hm
      refine s_callM [1, 2] (fun j => Nat.beq j 1) rfl rfl rfl (by decide) rfl rfl rfl rfl (compile_numbering_names_c1_c hr46) rfl rfl rfl ?_
      refine TN (WK (WT (WN [1, 3, 4, 51, 52] rfl rfl (TG ?_))))
      obtain ⟨g47, hm⟩ := GI hm
      refine SX rfl rfl (x_ar rfl rfl rfl rfl g47) (SA TK rfl (TN (WT ?_)))
      exact ⟨_, [0, 1, 2], (SJ hm), rfl, k0, rfl⟩
     ·replace hm := JF h45 hm
      refine twp_exit (WX ?_)
      obtain ⟨v48, hm, hz⟩ := II hm
      rw [hz44 _ hz] at hm
      refine WX (WH (WT ?_))
      exact ⟨_, [0, 1, 2], (SJ hm), rfl, k0, rfl⟩
    ·refine WN [1, 3, 4] rfl rfl ?_
     refine w_joinM hm (fun b49 => ([] : Fr)) (fun b49 => ([(1, .box 28 [.msl 2 1 0 b49.length]), (2, .flat 9 1 (b49.map D.str))] : List (Nat × Blk))) [] [1, 3, 4] rfl (fun z50 hm => ?_) (fun b49 hm => ?_)
     ·refine RS (SA TK rfl (SA TK rfl (SA TK rfl (SX rfl rfl (x_len TK rfl rfl rfl) (SA TK rfl (TN (WN [1, 3, 4, 63, 64] rfl rfl (TB (w_loop hm (fun (x54, b55) => ([(64, .d (.int .i64 x54))] : Fr)) (fun (x54, b55) => ([(1, .box 28 [.msl 2 1 0 b55.length]), (2, .flat 9 1 (b55.map D.str))] : List (Nat × Blk))) [64] [1, 3, 4, 63] [0, 1, 2] rfl k0 rfl rfl rfl rfl rfl (fun s z56 hm hz56 => ?_))))))))))
      obtain ⟨x54, b55⟩ := s
      refine WN [1, 3, 4, 63, 64] rfl rfl (RS (SA TK rfl (TN (WN [1, 3, 4, 63, 64, 65] rfl rfl (TQ ?_)))))
      refine TC _ rfl (fun h57 => ?_) (fun h57 => ?_)
      ·replace hm := JT h57 hm
       refine TS (WT (WN [1, 3, 4, 63, 64] rfl rfl ?_))
       refine w_joinM hm (fun b58 => ([] : Fr)) (fun b58 => ([(1, .box 28 [.msl 2 1 0 b58.length]), (2, .flat 9 1 (b58.map D.str))] : List (Nat × Blk))) [] [1, 3, 4, 63, 64] rfl (fun z59 hm => ?_) (fun b58 hm => ?_)
       ·refine TB (RS (SA TK rfl (SA TK rfl (TN (WN [1, 3, 4, 9, 63, 64] rfl rfl (RS (SA TK rfl (SA TK rfl (SX rfl rfl (x_lit [.const (Value.string ⟨#[115, 101, 116]⟩), .const (Value.string ⟨#[99, 108, 101, 97, 114]⟩), .const (Value.string ⟨#[117, 115, 101, 100]⟩), .const (Value.string ⟨#[104, 101, 108, 100]⟩)] TK rfl rfl zero9 rfl rfl rfl rfl rfl) ?_)))))))))
        obtain ⟨r60, hr60, hm⟩ := BI hm
        refine s_callM [1, 2] (fun j => Nat.beq j 1) rfl rfl rfl (by decide) rfl rfl rfl rfl (compile_numbering_names_c1_c hr60) rfl rfl rfl ?_
        refine TN (WN [1, 3, 4, 9, 63, 64] rfl rfl ?_)
        refine w_joinM hm (fun b61 => ([] : Fr)) (fun b61 => ([(1, .box 28 [.msl 2 1 0 b61.length]), (2, .flat 9 1 (b61.map D.str))] : List (Nat × Blk))) [] [1, 3, 4, 9, 63, 64] rfl (fun z62 hm => ?_) (fun b61 hm => ?_)
        ·refine RS (SA TK rfl (SA TK rfl ?_))
         obtain ⟨r63, hr63, hm⟩ := BI hm
         refine SX rfl rfl (RN rfl rfl (SC (.d _) (SC (.d _) SN)) (compile_numbering_last_c hr63)) (SA TK rfl (TN (WN [1, 3, 4, 9, 63, 64, 73, 74] rfl rfl (TB (w_loop hm (fun (x67, b68) => ([(74, .d (.int .i64 x67))] : Fr)) (fun (x67, b68) => ([(1, .box 28 [.msl 2 1 0 b68.length]), (2, .flat 9 1 (b68.map D.str))] : List (Nat × Blk))) [74] [1, 3, 4, 9, 63, 64, 73] [0, 1, 2] rfl k0 rfl rfl rfl rfl rfl (fun s z69 hm hz69 => ?_))))))
         obtain ⟨x67, b68⟩ := s
         refine WN [1, 3, 4, 9, 63, 64, 73, 74] rfl rfl (RS (SA TK rfl (TN (WN [1, 3, 4, 9, 63, 64, 73, 74, 75] rfl rfl (TQ ?_)))))
         refine TC _ rfl (fun h70 => ?_) (fun h70 => ?_)
         ·replace hm := JT h70 hm
          refine TS (WT (WN [1, 3, 4, 9, 63, 64, 73, 74] rfl rfl (TQ (TB (RS (SA TK rfl (SA TK rfl (TN (WN [1, 3, 4, 9, 10, 63, 64, 73, 74] rfl rfl ?_)))))))))
          refine TG (SA TK rfl (SA TK rfl (SA TK rfl ?_)))
          obtain ⟨r71, hr71, hm⟩ := BI hm
          refine SX rfl rfl (RN rfl rfl (SC (.d _) SN) (strconv_Itoa_c hr71)) ?_
          obtain ⟨g72, hm⟩ := GI hm
          refine SX rfl rfl (x_cat rfl rfl rfl g72) (SX rfl rfl (x_lit [.tmp 81] TK rfl rfl zero9 rfl rfl rfl rfl rfl) ?_)
          obtain ⟨r73, hr73, hm⟩ := BI hm
          refine s_callM [1, 2] (fun j => Nat.beq j 1) rfl rfl rfl (by decide) rfl rfl rfl rfl (compile_numbering_names_c1_c hr73) rfl rfl rfl ?_
          refine TN (WK (WT (WN [1, 3, 4, 9, 63, 64, 73, 74] rfl rfl (TG ?_))))
          obtain ⟨g74, hm⟩ := GI hm
          refine SX rfl rfl (x_ar rfl rfl rfl rfl g74) (SA TK rfl (TN (WT ?_)))
          exact ⟨_, [0, 1, 2], (SJ hm), rfl, k0, rfl⟩
         ·replace hm := JF h70 hm
          refine twp_exit (WX ?_)
          obtain ⟨v75, hm, hz⟩ := II hm
          rw [hz69 _ hz] at hm
          refine WX (WH (WT ?_))
          exact ⟨_, [0, 1, 2], (SJ hm), rfl, k0, rfl⟩
        ·refine WN [1, 3, 4, 9, 63, 64] rfl rfl (TG (SA TK rfl (SA TK rfl (SX rfl rfl (x_lit [.const (Value.string ⟨#[119, 97, 105, 116]⟩), .const (Value.string ⟨#[115, 116, 97, 110, 100]⟩)] TK rfl rfl zero9 rfl rfl rfl rfl rfl) ?_))))
         obtain ⟨r76, hr76, hm⟩ := BI hm
         refine s_callM [1, 2] (fun j => Nat.beq j 1) rfl rfl rfl (by decide) rfl rfl rfl rfl (compile_numbering_names_c1_c hr76) rfl rfl rfl ?_
         refine TN (WK (WT ?_))
         exact ⟨_, [0, 1, 2], (SJ hm), rfl, k0, rfl⟩
       ·refine WN [1, 3, 4, 63, 64] rfl rfl (TG ?_)
        obtain ⟨g77, hm⟩ := GI hm
        refine SX rfl rfl (x_ar rfl rfl rfl rfl g77) (SA TK rfl (TN (WT ?_)))
        exact ⟨_, [0, 1, 2], (SJ hm), rfl, k0, rfl⟩
      ·replace hm := JF h57 hm
       refine twp_exit (WX ?_)
       obtain ⟨v78, hm, hz⟩ := II hm
       rw [hz56 _ hz] at hm
       refine WX (WH (WT ?_))
       exact ⟨_, [0, 1, 2], (SJ hm), rfl, k0, rfl⟩
     ·refine WN [1, 3, 4] rfl rfl ?_
      refine w_joinM hm (fun b79 => ([] : Fr)) (fun b79 => ([(1, .box 28 [.msl 2 1 0 b79.length]), (2, .flat 9 1 (b79.map D.str))] : List (Nat × Blk))) [] [3] rfl (fun z80 hm => ?_) (fun b79 hm => ?_)
      ·refine RS (SA TK rfl (SA TK rfl (SA TK rfl (SX rfl rfl (x_len TK rfl rfl rfl) (SA TK rfl (TN (WN [3, 4, 93, 94] rfl rfl (TB (w_loop hm (fun (x84, b85) => ([(94, .d (.int .i64 x84))] : Fr)) (fun (x84, b85) => ([(1, .box 28 [.msl 2 1 0 b85.length]), (2, .flat 9 1 (b85.map D.str))] : List (Nat × Blk))) [94] [3, 4, 93] [0, 1, 2] rfl k0 rfl rfl rfl rfl rfl (fun s z86 hm hz86 => ?_))))))))))
       obtain ⟨x84, b85⟩ := s
       refine WN [3, 4, 93, 94] rfl rfl (RS (SA TK rfl (TN (WN [3, 4, 93, 94, 95] rfl rfl (TQ ?_)))))
       refine TC _ rfl (fun h87 => ?_) (fun h87 => ?_)
       ·replace hm := JT h87 hm
        refine TS (WT (WN [3, 4, 93, 94] rfl rfl (TQ (TB (RS (SA TK rfl (SA TK rfl (TN (WN [3, 4, 11, 93, 94] rfl rfl ?_)))))))))
        refine TG (SA TK rfl (SA TK rfl (SX rfl rfl (x_lit [.const (Value.string ⟨#[107, 101, 101, 112]⟩), .const (Value.string ⟨#[117, 115, 101]⟩), .const (Value.string ⟨#[104, 111, 108, 100]⟩), .const (Value.string ⟨#[97, 99, 116]⟩), .const (Value.string ⟨#[99, 97, 108, 108, 101, 100]⟩)] TK rfl rfl zero9 rfl rfl rfl rfl rfl) ?_)))
        obtain ⟨r88, hr88, hm⟩ := BI hm
        refine s_callM [1, 2] (fun j => Nat.beq j 1) rfl rfl rfl (by decide) rfl rfl rfl rfl (compile_numbering_names_c1_c hr88) rfl rfl rfl ?_
        refine TN (WK (WT (WN [3, 4, 93, 94] rfl rfl (TG ?_))))
        obtain ⟨g89, hm⟩ := GI hm
        refine SX rfl rfl (x_ar rfl rfl rfl rfl g89) (SA TK rfl (TN (WT ?_)))
        exact ⟨_, [0, 1, 2], (SJ hm), rfl, k0, rfl⟩
       ·replace hm := JF h87 hm
        refine twp_exit (WX ?_)
        obtain ⟨v90, hm, hz⟩ := II hm
        rw [hz86 _ hz] at hm
        refine WX (WH (WT ?_))
        exact ⟨_, [0, 1, 2], (SJ hm), rfl, k0, rfl⟩
      ·refine WN [3] rfl rfl (RS (SA TK rfl (SA TK rfl (TN (WN [2] rfl rfl (TR ?_))))))
       obtain rfl := OJ hm
       exact EndsS.one _ rfl (snap_map rfl) (.refl _)

theorem compile_builder_status_c {p0 : Builder} {p1 : Int} {p2 : Int} {r : Expr} (hm : compile_builder_status p0 p1 p2 = some r) : Ret Tryz.prog 80 [.box 81 [.d (.sl 14 (p0.numbering.t.routes.map Route.enc)), .d (.sl 1 (p0.numbering.t.points.map (D.int .i64))), .d (.sl 1 (p0.numbering.t.homes.map (D.int .i64))), .d (.int .i64 p0.numbering.t.sections), .d (.int .i64 p0.numbering.t.signals), .d (.int .i64 p0.numbering.inputs), .d (.sl 1 (p0.numbering.bases.map (D.int .i64))), .d (.int .i64 p0.numbering.extra), .d (.int .i64 p0.numbering.count), .msl 1 6 0 p0.rungs.length], .flat 40 6 (p0.rungs.map Rung.enc)] (fun _ => false) [.mptr 0 0 0 0, .d (.int .i64 p1), .d (.int .i64 p2)] (.d (r.enc)) [.box 81 [.d (.sl 14 (p0.numbering.t.routes.map Route.enc)), .d (.sl 1 (p0.numbering.t.points.map (D.int .i64))), .d (.sl 1 (p0.numbering.t.homes.map (D.int .i64))), .d (.int .i64 p0.numbering.t.sections), .d (.int .i64 p0.numbering.t.signals), .d (.int .i64 p0.numbering.inputs), .d (.sl 1 (p0.numbering.bases.map (D.int .i64))), .d (.int .i64 p0.numbering.extra), .d (.int .i64 p0.numbering.count), .msl 1 6 0 p0.rungs.length], .flat 40 6 (p0.rungs.map Rung.enc)] := by
 refine ret_body callB80 Tryz.func80 rfl Tryz.ntmps80 rfl rfl (fun wX gX => ?_)
 unfold compile_builder_status at hm
 refine WN [0, 1, 2] rfl rfl (RS (s_al 2 rfl rfl zero38 rfl (s_wkb 2 [none, none, some 3] rfl rfl (TN (WN [0, 1, 2, 6] rfl rfl (RS ?_))))))
 iterate 6 (refine SA TK rfl ?_)
 obtain ⟨r1, hr1, hm⟩ := BI hm
 refine SX rfl rfl (RN rfl rfl (SC (.d _) (SC (.d _) (SC (.d _) SN))) (compile_numbering_part_c hr1)) ?_
 obtain ⟨r2, hr2, hm⟩ := BI hm
 refine SX rfl rfl (RD rfl rfl rfl (compile_val_c hr2)) (SA TK rfl (TN (WN [6] rfl rfl (TR ?_))))
 obtain rfl := OJ hm
 exact ⟨_, [0, 1], .mk _ (.cons (.agg (TK.lay rfl) rfl rfl rfl rfl) .nil) rfl, by decide, (kB rfl), rfl, rfl⟩

theorem compile_builder_ask_c {p0 : Builder} {p1 : Int} {p2 : Int} {r : Expr} (hm : compile_builder_ask p0 p1 p2 = some r) : Ret Tryz.prog 81 [.box 81 [.d (.sl 14 (p0.numbering.t.routes.map Route.enc)), .d (.sl 1 (p0.numbering.t.points.map (D.int .i64))), .d (.sl 1 (p0.numbering.t.homes.map (D.int .i64))), .d (.int .i64 p0.numbering.t.sections), .d (.int .i64 p0.numbering.t.signals), .d (.int .i64 p0.numbering.inputs), .d (.sl 1 (p0.numbering.bases.map (D.int .i64))), .d (.int .i64 p0.numbering.extra), .d (.int .i64 p0.numbering.count), .msl 1 6 0 p0.rungs.length], .flat 40 6 (p0.rungs.map Rung.enc)] (fun _ => false) [.mptr 0 0 0 0, .d (.int .i64 p1), .d (.int .i64 p2)] (.d (r.enc)) [.box 81 [.d (.sl 14 (p0.numbering.t.routes.map Route.enc)), .d (.sl 1 (p0.numbering.t.points.map (D.int .i64))), .d (.sl 1 (p0.numbering.t.homes.map (D.int .i64))), .d (.int .i64 p0.numbering.t.sections), .d (.int .i64 p0.numbering.t.signals), .d (.int .i64 p0.numbering.inputs), .d (.sl 1 (p0.numbering.bases.map (D.int .i64))), .d (.int .i64 p0.numbering.extra), .d (.int .i64 p0.numbering.count), .msl 1 6 0 p0.rungs.length], .flat 40 6 (p0.rungs.map Rung.enc)] := by
 refine ret_body callB81 Tryz.func81 rfl Tryz.ntmps81 rfl rfl (fun wX gX => ?_)
 unfold compile_builder_ask at hm
 refine WN [0, 1, 2] rfl rfl (RS (s_al 2 rfl rfl zero38 rfl (s_wkb 2 [none, none, some 3] rfl rfl (TN (WN [0, 1, 2, 6] rfl rfl (RS ?_))))))
 iterate 6 (refine SA TK rfl ?_)
 obtain ⟨r1, hr1, hm⟩ := BI hm
 refine SX rfl rfl (RN rfl rfl (SC (.d _) (SC (.d _) (SC (.d _) SN))) (compile_numbering_request_c hr1)) ?_
 obtain ⟨r2, hr2, hm⟩ := BI hm
 refine SX rfl rfl (RD rfl rfl rfl (compile_val_c hr2)) (SA TK rfl (TN (WN [6] rfl rfl (TR ?_))))
 obtain rfl := OJ hm
 exact ⟨_, [0, 1], .mk _ (.cons (.agg (TK.lay rfl) rfl rfl rfl rfl) .nil) rfl, by decide, (kB rfl), rfl, rfl⟩

theorem compile_builder_rel_c {p0 : Builder} {p1 : Int} {p2 : Int} {r : Expr} (hm : compile_builder_rel p0 p1 p2 = some r) : Ret Tryz.prog 90 [.box 81 [.d (.sl 14 (p0.numbering.t.routes.map Route.enc)), .d (.sl 1 (p0.numbering.t.points.map (D.int .i64))), .d (.sl 1 (p0.numbering.t.homes.map (D.int .i64))), .d (.int .i64 p0.numbering.t.sections), .d (.int .i64 p0.numbering.t.signals), .d (.int .i64 p0.numbering.inputs), .d (.sl 1 (p0.numbering.bases.map (D.int .i64))), .d (.int .i64 p0.numbering.extra), .d (.int .i64 p0.numbering.count), .msl 1 6 0 p0.rungs.length], .flat 40 6 (p0.rungs.map Rung.enc)] (fun _ => false) [.mptr 0 0 0 0, .d (.int .i64 p1), .d (.int .i64 p2)] (.d (r.enc)) [.box 81 [.d (.sl 14 (p0.numbering.t.routes.map Route.enc)), .d (.sl 1 (p0.numbering.t.points.map (D.int .i64))), .d (.sl 1 (p0.numbering.t.homes.map (D.int .i64))), .d (.int .i64 p0.numbering.t.sections), .d (.int .i64 p0.numbering.t.signals), .d (.int .i64 p0.numbering.inputs), .d (.sl 1 (p0.numbering.bases.map (D.int .i64))), .d (.int .i64 p0.numbering.extra), .d (.int .i64 p0.numbering.count), .msl 1 6 0 p0.rungs.length], .flat 40 6 (p0.rungs.map Rung.enc)] := by
 refine ret_body callB90 Tryz.func90 rfl Tryz.ntmps90 rfl rfl (fun wX gX => ?_)
 unfold compile_builder_rel at hm
 refine WN [0, 1, 2] rfl rfl (RS (s_al 2 rfl rfl zero38 rfl (s_wkb 2 [none, none, some 3] rfl rfl (TN (WN [0, 1, 2, 6] rfl rfl (RS ?_))))))
 iterate 6 (refine SA TK rfl ?_)
 obtain ⟨g1, hm⟩ := GI hm
 refine SX rfl rfl (x_ar rfl rfl rfl rfl g1) ?_
 obtain ⟨r2, hr2, hm⟩ := BI hm
 refine SX rfl rfl (RN rfl rfl (SC (.d _) (SC (.d _) (SC (.d _) SN))) (compile_numbering_part_c hr2)) ?_
 obtain ⟨r3, hr3, hm⟩ := BI hm
 refine SX rfl rfl (RD rfl rfl rfl (compile_val_c hr3)) (SA TK rfl (TN (WN [6] rfl rfl (TR ?_))))
 obtain rfl := OJ hm
 exact ⟨_, [0, 1], .mk _ (.cons (.agg (TK.lay rfl) rfl rfl rfl rfl) .nil) rfl, by decide, (kB rfl), rfl, rfl⟩

theorem compile_builder_free_c {p0 : Builder} {p1 : Int} {r : Expr} (hm : compile_builder_free p0 p1 = some r) : Ret Tryz.prog 86 [.box 81 [.d (.sl 14 (p0.numbering.t.routes.map Route.enc)), .d (.sl 1 (p0.numbering.t.points.map (D.int .i64))), .d (.sl 1 (p0.numbering.t.homes.map (D.int .i64))), .d (.int .i64 p0.numbering.t.sections), .d (.int .i64 p0.numbering.t.signals), .d (.int .i64 p0.numbering.inputs), .d (.sl 1 (p0.numbering.bases.map (D.int .i64))), .d (.int .i64 p0.numbering.extra), .d (.int .i64 p0.numbering.count), .msl 1 6 0 p0.rungs.length], .flat 40 6 (p0.rungs.map Rung.enc)] (fun _ => false) [.mptr 0 0 0 0, .d (.int .i64 p1)] (.d (r.enc)) [.box 81 [.d (.sl 14 (p0.numbering.t.routes.map Route.enc)), .d (.sl 1 (p0.numbering.t.points.map (D.int .i64))), .d (.sl 1 (p0.numbering.t.homes.map (D.int .i64))), .d (.int .i64 p0.numbering.t.sections), .d (.int .i64 p0.numbering.t.signals), .d (.int .i64 p0.numbering.inputs), .d (.sl 1 (p0.numbering.bases.map (D.int .i64))), .d (.int .i64 p0.numbering.extra), .d (.int .i64 p0.numbering.count), .msl 1 6 0 p0.rungs.length], .flat 40 6 (p0.rungs.map Rung.enc)] := by
 refine ret_body callB86 Tryz.func86 rfl Tryz.ntmps86 rfl rfl (fun wX gX => ?_)
 unfold compile_builder_free at hm
 refine WN [0, 1] rfl rfl (RS (s_al 2 rfl rfl zero38 rfl (s_wkb 2 [none, none, some 3] rfl rfl (TN (WN [0, 1, 4] rfl rfl (RS ?_))))))
 iterate 5 (refine SA TK rfl ?_)
 obtain ⟨r1, hr1, hm⟩ := BI hm
 refine SX rfl rfl (RN rfl rfl (SC (.d _) (SC (.d _) (SC (.d _) SN))) (compile_numbering_section_c hr1)) ?_
 obtain ⟨r2, hr2, hm⟩ := BI hm
 refine SX rfl rfl (RD rfl rfl rfl (compile_val_c hr2)) (SA TK rfl (TN (WN [4] rfl rfl (TR ?_))))
 obtain rfl := OJ hm
 exact ⟨_, [0, 1], .mk _ (.cons (.agg (TK.lay rfl) rfl rfl rfl rfl) .nil) rfl, by decide, (kB rfl), rfl, rfl⟩

theorem compile_builder_emptied_c {p0 : Builder} {p1 : Int} {r : Expr} (hm : compile_builder_emptied p0 p1 = some r) : Ret Tryz.prog 82 [.box 81 [.d (.sl 14 (p0.numbering.t.routes.map Route.enc)), .d (.sl 1 (p0.numbering.t.points.map (D.int .i64))), .d (.sl 1 (p0.numbering.t.homes.map (D.int .i64))), .d (.int .i64 p0.numbering.t.sections), .d (.int .i64 p0.numbering.t.signals), .d (.int .i64 p0.numbering.inputs), .d (.sl 1 (p0.numbering.bases.map (D.int .i64))), .d (.int .i64 p0.numbering.extra), .d (.int .i64 p0.numbering.count), .msl 1 6 0 p0.rungs.length], .flat 40 6 (p0.rungs.map Rung.enc)] (fun _ => false) [.mptr 0 0 0 0, .d (.int .i64 p1)] (.d (r.enc)) [.box 81 [.d (.sl 14 (p0.numbering.t.routes.map Route.enc)), .d (.sl 1 (p0.numbering.t.points.map (D.int .i64))), .d (.sl 1 (p0.numbering.t.homes.map (D.int .i64))), .d (.int .i64 p0.numbering.t.sections), .d (.int .i64 p0.numbering.t.signals), .d (.int .i64 p0.numbering.inputs), .d (.sl 1 (p0.numbering.bases.map (D.int .i64))), .d (.int .i64 p0.numbering.extra), .d (.int .i64 p0.numbering.count), .msl 1 6 0 p0.rungs.length], .flat 40 6 (p0.rungs.map Rung.enc)] := by
 refine ret_body callB82 Tryz.func82 rfl Tryz.ntmps82 rfl rfl (fun wX gX => ?_)
 unfold compile_builder_emptied at hm
 refine WN [0, 1] rfl rfl (RS (s_al 2 rfl rfl zero38 rfl (s_wkb 2 [none, none, some 3] rfl rfl (TN (WN [0, 1, 4] rfl rfl (RS (s_nilO (f := Expr.encR) 3 38 3 rfl rfl rfl (TN ?_))))))))
 refine WN [0, 1, 4, 5] rfl rfl ?_
 refine w_joinM hm (fun b1 => ([(5, .msl 3 3 0 b1.length)] : Fr)) (fun b1 => ([(3, .flat 38 3 (b1.map Expr.encR))] : List (Nat × Blk))) [5] [4] rfl (fun z2 hm => ?_) (fun b1 hm => ?_)
 ·refine RS ?_
  iterate 7 (refine SA TK rfl ?_)
  obtain ⟨e3, he3, hm⟩ := GV hm
  refine SX rfl rfl (x_ix TK rfl rfl rfl rfl he3) (SA TK rfl (SA TK rfl (SX rfl rfl (x_len TK rfl rfl rfl) (SA TK rfl (TN (WN [0, 1, 4, 5, 17, 18, 19] rfl rfl (TB (w_loop hm (fun (x7, b8) => ([(5, .msl 3 3 0 b8.length), (19, .d (.int .i64 x7))] : Fr)) (fun (x7, b8) => ([(3, .flat 38 3 (b8.map Expr.encR))] : List (Nat × Blk))) [5, 19] [0, 1, 4, 17, 18] [0, 1, 2, 3] rfl (kB rfl) rfl rfl rfl rfl rfl (fun s z9 hm hz9 => ?_)))))))))
  obtain ⟨x7, b8⟩ := s
  refine WN [0, 1, 4, 5, 17, 18, 19] rfl rfl (RS (SA TK rfl (TN (WN [0, 1, 4, 5, 17, 18, 19, 20] rfl rfl (TQ ?_)))))
  refine TC _ rfl (fun h10 => ?_) (fun h10 => ?_)
  ·replace hm := JT h10 hm
   refine TS (WT (WN [0, 1, 4, 5, 17, 18, 19] rfl rfl (TQ (TB (RS (SA TK rfl ?_))))))
   obtain ⟨e11, he11, hm⟩ := GV hm
   refine SX rfl rfl (x_ix TK rfl rfl rfl rfl he11) (SA TK rfl (SA TK rfl (SA TK rfl (TN (WN [0, 1, 4, 5, 6, 7, 17, 18, 19] rfl rfl (RS ?_))))))
   iterate 6 (refine SA TK rfl ?_)
   obtain ⟨r12, hr12, hm⟩ := BI hm
   refine SX rfl rfl (RN rfl rfl (SC (.d _) (SC (.d _) SN)) (compile_numbering_last_c hr12)) (SA TK rfl (TN (WN [0, 1, 4, 5, 6, 7, 17, 18, 19, 31] rfl rfl ?_)))
   refine TC _ rfl (fun h13 => ?_) (fun h13 => ?_)
   ·replace hm := JT h13 hm
    refine TG ?_
    iterate 4 (refine SA TK rfl ?_)
    obtain ⟨r14, hr14, hm⟩ := BI hm
    refine SX rfl rfl (rd_callH [0, 1] ⟨rfl, rfl, fun _ => rfl⟩ rfl rfl rfl (by decide) rfl (closedH_of rfl) rfl rfl (compile_builder_rel_c hr14)) ?_
    refine SA TK rfl (SA TK rfl ?_)
    obtain ⟨r15, hr15, hm⟩ := BI hm
    refine SX rfl rfl (rd_callH [0, 1] ⟨rfl, rfl, fun _ => rfl⟩ rfl rfl rfl (by decide) rfl (closedH_of rfl) rfl rfl (compile_builder_free_c hr15)) ?_
    refine SX rfl rfl (x_litE (f := Expr.encR) (xs := ([r14, r15] : List Expr)) [.tmp 36, .tmp 39] TK rfl rfl zero38 rfl (evD_of rfl (encs_cons (Expr.encR_eq _) (encs_cons (Expr.encR_eq _) encs_nil))) rfl (litE_size Expr.encR_cells) rfl) ?_
    obtain ⟨r16, hr16, hm⟩ := BI hm
    refine SX rfl rfl (RD rfl rfl rfl (compile_or_c hr16)) (SX rfl rfl (x_litE (f := Expr.encR) (xs := ([r16] : List Expr)) [.tmp 41] TK rfl rfl zero38 rfl (evD_of rfl (encs_cons (Expr.encR_eq _) encs_nil)) rfl (litE_size Expr.encR_cells) rfl) ?_)
    obtain ⟨g17, hm⟩ := GI hm
    refine s_app (f := Expr.encR) ([r16] : List Expr) TK rfl rfl zero38 rfl rfl rfl rfl rfl (fun h => absurd (show 3 < 2 from h) (by decide)) rfl src_d g17 rfl rfl ?_
    refine SA TK rfl (TN (WK (WT (WN [0, 1, 4, 5, 17, 18, 19] rfl rfl (TG ?_)))))
    obtain ⟨g18, hm⟩ := GI hm
    refine SX rfl rfl (x_ar rfl rfl rfl rfl g18) (SA TK rfl (TN (WT ?_)))
    exact ⟨_, [0, 1, 2, 3], (SJ hm), rfl, (kB rfl), rfl⟩
   ·replace hm := JF h13 hm
    refine TG (SA TK rfl (SA TK rfl (SA TK rfl ?_)))
    obtain ⟨r19, hr19, hm⟩ := BI hm
    refine SX rfl rfl (rd_callH [0, 1] ⟨rfl, rfl, fun _ => rfl⟩ rfl rfl rfl (by decide) rfl (closedH_of rfl) rfl rfl (compile_builder_free_c hr19)) ?_
    refine SX rfl rfl (x_litE (f := Expr.encR) (xs := ([r19] : List Expr)) [.tmp 47] TK rfl rfl zero38 rfl (evD_of rfl (encs_cons (Expr.encR_eq _) encs_nil)) rfl (litE_size Expr.encR_cells) rfl) ?_
    obtain ⟨g20, hm⟩ := GI hm
    refine s_app (f := Expr.encR) ([r19] : List Expr) TK rfl rfl zero38 rfl rfl rfl rfl rfl (fun h => absurd (show 3 < 2 from h) (by decide)) rfl src_d g20 rfl rfl ?_
    refine SA TK rfl (TN (WK (WT (WN [0, 1, 4, 5, 17, 18, 19] rfl rfl (TG ?_)))))
    obtain ⟨g21, hm⟩ := GI hm
    refine SX rfl rfl (x_ar rfl rfl rfl rfl g21) (SA TK rfl (TN (WT ?_)))
    exact ⟨_, [0, 1, 2, 3], (SJ hm), rfl, (kB rfl), rfl⟩
  ·replace hm := JF h10 hm
   refine twp_exit (WX ?_)
   obtain ⟨v22, hm, hz⟩ := II hm
   rw [hz9 _ hz] at hm
   refine WX (WH (WT ?_))
   exact ⟨_, [0, 1, 2, 3], (SJ hm), rfl, (kB rfl), rfl⟩
 ·refine WN [4, 5] rfl rfl ?_
  refine c_frzO 5 3 [4] rfl rfl rfl rfl rfl (by simp) rfl rfl ?_
  refine RS (SA TK rfl ?_)
  obtain ⟨r23, hr23, hm⟩ := BI hm
  refine SX rfl rfl (RD rfl rfl rfl (compile_and_c hr23)) (SA TK rfl (TN (WN [4] rfl rfl (TR ?_))))
  obtain rfl := OJ hm
  exact ⟨_, [0, 1], .mk _ (.cons (.agg (TK.lay rfl) rfl rfl rfl rfl) .nil) rfl, by decide, (kB rfl), rfl, rfl⟩

theorem compile_builder_atLast_c {p0 : Builder} {p1 : Int} {r : Expr} (hm : compile_builder_atLast p0 p1 = some r) : Ret Tryz.prog 84 [.box 81 [.d (.sl 14 (p0.numbering.t.routes.map Route.enc)), .d (.sl 1 (p0.numbering.t.points.map (D.int .i64))), .d (.sl 1 (p0.numbering.t.homes.map (D.int .i64))), .d (.int .i64 p0.numbering.t.sections), .d (.int .i64 p0.numbering.t.signals), .d (.int .i64 p0.numbering.inputs), .d (.sl 1 (p0.numbering.bases.map (D.int .i64))), .d (.int .i64 p0.numbering.extra), .d (.int .i64 p0.numbering.count), .msl 1 6 0 p0.rungs.length], .flat 40 6 (p0.rungs.map Rung.enc)] (fun _ => false) [.mptr 0 0 0 0, .d (.int .i64 p1)] (.d (r.enc)) [.box 81 [.d (.sl 14 (p0.numbering.t.routes.map Route.enc)), .d (.sl 1 (p0.numbering.t.points.map (D.int .i64))), .d (.sl 1 (p0.numbering.t.homes.map (D.int .i64))), .d (.int .i64 p0.numbering.t.sections), .d (.int .i64 p0.numbering.t.signals), .d (.int .i64 p0.numbering.inputs), .d (.sl 1 (p0.numbering.bases.map (D.int .i64))), .d (.int .i64 p0.numbering.extra), .d (.int .i64 p0.numbering.count), .msl 1 6 0 p0.rungs.length], .flat 40 6 (p0.rungs.map Rung.enc)] := by
 refine ret_body callB84 Tryz.func84 rfl Tryz.ntmps84 rfl rfl (fun wX gX => ?_)
 unfold compile_builder_atLast at hm
 refine WN [0, 1] rfl rfl (RS (s_al 2 rfl rfl zero38 rfl (s_wkb 2 [none, none, some 3] rfl rfl (TN (WN [0, 1, 4] rfl rfl (TQ (RS ?_)))))))
 iterate 5 (refine SA TK rfl ?_)
 obtain ⟨r1, hr1, hm⟩ := BI hm
 refine SX rfl rfl (RN rfl rfl (SC (.d _) (SC (.d _) SN)) (compile_numbering_last_c hr1)) (SA TK rfl (TN (WN [0, 1, 4, 11] rfl rfl ?_)))
 refine TC _ rfl (fun h2 => ?_) (fun h2 => ?_)
 ·replace hm := JT h2 hm
  refine RS ?_
  obtain ⟨r3, hr3, hm⟩ := BI hm
  refine SX rfl rfl (RD rfl rfl rfl ((compile_and_c hr3).args ((.cons (.nil _) .nil)))) (SA TK rfl (TN (WN [4] rfl rfl (TR (WR ?_)))))
  obtain rfl := OJ hm
  exact ⟨_, [0, 1], .mk _ (.cons (.agg (TK.lay rfl) rfl rfl rfl rfl) .nil) rfl, by decide, (kB rfl), rfl, rfl⟩
 ·replace hm := JF h2 hm
  refine TS (WT (WN [0, 1, 4] rfl rfl (RS ?_)))
  iterate 7 (refine SA TK rfl ?_)
  obtain ⟨r4, hr4, hm⟩ := BI hm
  refine SX rfl rfl (RN rfl rfl (SC (.d _) (SC (.d _) SN)) (compile_numbering_last_c hr4)) ?_
  obtain ⟨g5, hm⟩ := GI hm
  refine SX rfl rfl (x_ar rfl rfl rfl rfl g5) ?_
  obtain ⟨r6, hr6, hm⟩ := BI hm
  refine SX rfl rfl (rd_callH [0, 1] ⟨rfl, rfl, fun _ => rfl⟩ rfl rfl rfl (by decide) rfl (closedH_of rfl) rfl rfl (compile_builder_rel_c hr6)) ?_
  refine SA TK rfl (TN (WN [4] rfl rfl (TR ?_)))
  obtain rfl := OJ hm
  exact ⟨_, [0, 1], .mk _ (.cons (.agg (TK.lay rfl) rfl rfl rfl rfl) .nil) rfl, by decide, (kB rfl), rfl, rfl⟩

theorem compile_builder_timers_c {p0 : Builder} {p1 : Int} {r : Builder} (hm : compile_builder_timers p0 p1 = some r) : Ret Tryz.prog 31 [.box 81 [.d (.sl 14 (p0.numbering.t.routes.map Route.enc)), .d (.sl 1 (p0.numbering.t.points.map (D.int .i64))), .d (.sl 1 (p0.numbering.t.homes.map (D.int .i64))), .d (.int .i64 p0.numbering.t.sections), .d (.int .i64 p0.numbering.t.signals), .d (.int .i64 p0.numbering.inputs), .d (.sl 1 (p0.numbering.bases.map (D.int .i64))), .d (.int .i64 p0.numbering.extra), .d (.int .i64 p0.numbering.count), .msl 1 6 0 p0.rungs.length], .flat 40 6 (p0.rungs.map Rung.enc)] (fun j => Nat.beq j 1) [.mptr 0 0 0 0, .d (.int .i64 p1)] (.tup []) [.box 81 [.d (.sl 14 (p0.numbering.t.routes.map Route.enc)), .d (.sl 1 (p0.numbering.t.points.map (D.int .i64))), .d (.sl 1 (p0.numbering.t.homes.map (D.int .i64))), .d (.int .i64 p0.numbering.t.sections), .d (.int .i64 p0.numbering.t.signals), .d (.int .i64 p0.numbering.inputs), .d (.sl 1 (p0.numbering.bases.map (D.int .i64))), .d (.int .i64 p0.numbering.extra), .d (.int .i64 p0.numbering.count), .msl 1 6 0 r.rungs.length], .flat 40 6 (r.rungs.map Rung.enc)] := by
 refine ret_body callB31 Tryz.func31 rfl Tryz.ntmps31 rfl rfl (fun wX gX => ?_)
 unfold compile_builder_timers at hm
 refine WN [0, 1] rfl rfl (RS ?_)
 iterate 7 (refine SA TK rfl ?_)
 obtain ⟨e1, he1, hm⟩ := GV hm
 refine SX rfl rfl (x_ix TK rfl rfl rfl rfl he1) (SA TK rfl (SA TK rfl (SA TK rfl (TN (WN [0, 1, 4] rfl rfl (twp_draw follows  ?_))))))
 iterate 10 (refine DA [0, 1] TK rfl ?_)
 obtain ⟨r2, hr2, hm⟩ := BI hm
 refine DX [0, 1] rfl rfl (RN rfl rfl (SC (.d _) (SC (.d _) SN)) (compile_numbering_wait_c hr2)) ?_
 iterate 2 (refine DA [0, 1] TK rfl ?_)
 obtain ⟨r3, hr3, hm⟩ := BI hm
 refine DX [0, 1] rfl rfl (rd_callH [0, 1] ⟨rfl, rfl, fun _ => rfl⟩ rfl rfl rfl (by decide) rfl (closedH_of rfl) rfl rfl (compile_builder_status_c hr3)) ?_
 iterate 2 (refine DA [0, 1] TK rfl ?_)
 obtain ⟨r4, hr4, hm⟩ := BI hm
 refine DX [0, 1] rfl rfl (rd_callH [0, 1] ⟨rfl, rfl, fun _ => rfl⟩ rfl rfl rfl (by decide) rfl (closedH_of rfl) rfl rfl (compile_builder_ask_c hr4)) ?_
 iterate 2 (refine DA [0, 1] TK rfl ?_)
 obtain ⟨r5, hr5, hm⟩ := BI hm
 refine DX [0, 1] rfl rfl (rd_callH [0, 1] ⟨rfl, rfl, fun _ => rfl⟩ rfl rfl rfl (by decide) rfl (closedH_of rfl) rfl rfl (compile_builder_emptied_c hr5)) ?_
 refine DX [0, 1] rfl rfl (x_litE (f := Expr.encR) (xs := ([r3, r4, r5] : List Expr)) [.tmp 28, .tmp 31, .tmp 34] TK rfl rfl zero38 rfl (evD_of rfl (encs_cons (Expr.encR_eq _) (encs_cons (Expr.encR_eq _) (encs_cons (Expr.encR_eq _) encs_nil)))) rfl (litE_size Expr.encR_cells) rfl) ?_
 obtain ⟨r6, hr6, hm⟩ := BI hm
 refine DX [0, 1] rfl rfl (RD rfl rfl rfl (compile_and_c hr6)) (DX [0, 1] rfl rfl (build_d rfl plc40 zero40 rfl rfl rfl rfl) ?_)
 iterate 5 (refine DA [0, 1] TK rfl ?_)
 obtain ⟨r7, hr7, hm⟩ := BI hm
 refine DX [0, 1] rfl rfl (RN rfl rfl (SC (.d _) (SC (.d _) SN)) (compile_numbering_stand_c hr7)) ?_
 iterate 2 (refine DA [0, 1] TK rfl ?_)
 obtain ⟨r8, hr8, hm⟩ := BI hm
 refine DX [0, 1] rfl rfl (rd_callH [0, 1] ⟨rfl, rfl, fun _ => rfl⟩ rfl rfl rfl (by decide) rfl (closedH_of rfl) rfl rfl (compile_builder_status_c hr8)) ?_
 iterate 2 (refine DA [0, 1] TK rfl ?_)
 obtain ⟨r9, hr9, hm⟩ := BI hm
 refine DX [0, 1] rfl rfl (rd_callH [0, 1] ⟨rfl, rfl, fun _ => rfl⟩ rfl rfl rfl (by decide) rfl (closedH_of rfl) rfl rfl (compile_builder_ask_c hr9)) ?_
 iterate 2 (refine DA [0, 1] TK rfl ?_)
 obtain ⟨r10, hr10, hm⟩ := BI hm
 refine DX [0, 1] rfl rfl (rd_callH [0, 1] ⟨rfl, rfl, fun _ => rfl⟩ rfl rfl rfl (by decide) rfl (closedH_of rfl) rfl rfl (compile_builder_atLast_c hr10)) ?_
 iterate 7 (refine DA [0, 1] TK rfl ?_)
 obtain ⟨r11, hr11, hm⟩ := BI hm
 refine DX [0, 1] rfl rfl (RN rfl rfl (SC (.d _) (SC (.d _) SN)) (compile_numbering_last_c hr11)) ?_
 obtain ⟨e12, he12, hm⟩ := GV hm
 refine DX [0, 1] rfl rfl (x_ix TK rfl rfl rfl rfl he12) (DA [0, 1] TK rfl ?_)
 obtain ⟨r13, hr13, hm⟩ := BI hm
 refine DX [0, 1] rfl rfl (rd_callH [0, 1] ⟨rfl, rfl, fun _ => rfl⟩ rfl rfl rfl (by decide) rfl (closedH_of rfl) rfl rfl (compile_builder_free_c hr13)) ?_
 obtain ⟨r14, hr14, hm⟩ := BI hm
 refine DX [0, 1] rfl rfl (RD rfl rfl rfl (compile_not_c hr14)) (DX [0, 1] rfl rfl (x_litE (f := Expr.encR) (xs := ([r8, r9, r10, r14] : List Expr)) [.tmp 46, .tmp 49, .tmp 52, .tmp 64] TK rfl rfl zero38 rfl (evD_of rfl (encs_cons (Expr.encR_eq _) (encs_cons (Expr.encR_eq _) (encs_cons (Expr.encR_eq _) (encs_cons (Expr.encR_eq _) encs_nil))))) rfl (litE_size Expr.encR_cells) rfl) ?_)
 obtain ⟨r15, hr15, hm⟩ := BI hm
 refine DX [0, 1] rfl rfl (RD rfl rfl rfl (compile_and_c hr15)) (DX [0, 1] rfl rfl (build_d rfl plc40 zero40 rfl rfl rfl rfl) (DX [0, 1] rfl rfl (x_lit [.tmp 37, .tmp 67] TK rfl rfl zero40 rfl rfl rfl rfl rfl) ?_))
 refine d_tailq 0 15 ?_ ?_ rfl (by kernel_rfl) (by kernel_rfl) (by kernel_rfl)
 ·obtain ⟨g16, hm⟩ := GI hm
  refine s_app (f := Rung.enc) ([(⟨(2 : Int), r2, (12 : Int), r6⟩ : Rung), (⟨(2 : Int), r7, (4 : Int), r15⟩ : Rung)] : List Rung) TK rfl rfl zero40 rfl rfl rfl rfl rfl (fun _ => rfl) rfl src_d g16 rfl rfl (SA TK rfl (SA TK rfl (SA TK rfl (TN ?_))))
  obtain rfl := OJ hm
  exact ⟨_, [0, 1], res rfl, by decide, (kB rfl), rfl, rfl⟩
 ·obtain ⟨g17, hm⟩ := GI hm
  refine s_app (f := Rung.enc) ([(⟨(2 : Int), r2, (12 : Int), r6⟩ : Rung), (⟨(2 : Int), r7, (4 : Int), r15⟩ : Rung)] : List Rung) TK rfl rfl zero40 rfl rfl rfl rfl rfl (fun _ => rfl) rfl src_d g17 rfl rfl ?_
  iterate 4 (refine SA TK rfl ?_)
  refine TN ?_
  obtain rfl := OJ hm
  exact ⟨_, [0, 1], res rfl, by decide, (kB rfl), rfl, rfl⟩

theorem compile_builder_proved_c {p0 : Builder} {p1 : Int} {r : Expr} (hm : compile_builder_proved p0 p1 = some r) : Ret Tryz.prog 87 [.box 81 [.d (.sl 14 (p0.numbering.t.routes.map Route.enc)), .d (.sl 1 (p0.numbering.t.points.map (D.int .i64))), .d (.sl 1 (p0.numbering.t.homes.map (D.int .i64))), .d (.int .i64 p0.numbering.t.sections), .d (.int .i64 p0.numbering.t.signals), .d (.int .i64 p0.numbering.inputs), .d (.sl 1 (p0.numbering.bases.map (D.int .i64))), .d (.int .i64 p0.numbering.extra), .d (.int .i64 p0.numbering.count), .msl 1 6 0 p0.rungs.length], .flat 40 6 (p0.rungs.map Rung.enc)] (fun _ => false) [.mptr 0 0 0 0, .d (.int .i64 p1)] (.d (r.enc)) [.box 81 [.d (.sl 14 (p0.numbering.t.routes.map Route.enc)), .d (.sl 1 (p0.numbering.t.points.map (D.int .i64))), .d (.sl 1 (p0.numbering.t.homes.map (D.int .i64))), .d (.int .i64 p0.numbering.t.sections), .d (.int .i64 p0.numbering.t.signals), .d (.int .i64 p0.numbering.inputs), .d (.sl 1 (p0.numbering.bases.map (D.int .i64))), .d (.int .i64 p0.numbering.extra), .d (.int .i64 p0.numbering.count), .msl 1 6 0 p0.rungs.length], .flat 40 6 (p0.rungs.map Rung.enc)] := by
 refine ret_body callB87 Tryz.func87 rfl Tryz.ntmps87 rfl rfl (fun wX gX => ?_)
 unfold compile_builder_proved at hm
 refine WN [0, 1] rfl rfl (RS (s_al 2 rfl rfl zero38 rfl (s_wkb 2 [none, none, some 3] rfl rfl (TN (WN [0, 1, 4] rfl rfl (RS ?_))))))
 iterate 7 (refine SA TK rfl ?_)
 obtain ⟨e1, he1, hm⟩ := GV hm
 refine SX rfl rfl (x_ix TK rfl rfl rfl rfl he1) (SA TK rfl (s_al 3 rfl rfl zero74 rfl (s_wkb 3 [none, none, none, some 3, some 2, some 1, none, none, some 3, some 2, some 1, some 2, some 1, some 2] rfl rfl (SA TK rfl (TN (WN [0, 4, 5] rfl rfl (RS (s_nilO (f := Expr.encR) 4 38 3 rfl rfl rfl ?_))))))))
 refine TN (WN [0, 4, 5, 6] rfl rfl ?_)
 refine w_joinM hm (fun b2 => ([(6, .msl 4 3 0 b2.length)] : Fr)) (fun b2 => ([(4, .flat 38 3 (b2.map Expr.encR))] : List (Nat × Blk))) [6] [0, 4, 5] rfl (fun z3 hm => ?_) (fun b2 hm => ?_)
 ·refine RS ?_
  iterate 4 (refine SA TK rfl ?_)
  refine SX rfl rfl (x_lit [.tmp 22, .tmp 24] TK rfl rfl zero23 rfl rfl rfl rfl rfl) ?_
  obtain ⟨r4, hr4, hm⟩ := BI hm
  refine SX rfl rfl (RN rfl rfl (SC (.d _) SN) (slices_Concat_int_c hr4)) (SX rfl rfl (x_len TK rfl rfl rfl) (SA TK rfl (TN (WN [0, 4, 5, 6, 26, 27, 28] rfl rfl (TB (w_loop hm (fun (x8, b9) => ([(6, .msl 4 3 0 b9.length), (28, .d (.int .i64 x8))] : Fr)) (fun (x8, b9) => ([(4, .flat 38 3 (b9.map Expr.encR))] : List (Nat × Blk))) [6, 28] [0, 4, 5, 26, 27] [0, 1, 2, 3, 4] rfl (kB rfl) rfl rfl rfl rfl rfl (fun s z10 hm hz10 => ?_)))))))
  obtain ⟨x8, b9⟩ := s
  refine WN [0, 4, 5, 6, 26, 27, 28] rfl rfl (RS (SA TK rfl (TN (WN [0, 4, 5, 6, 26, 27, 28, 29] rfl rfl (TQ ?_)))))
  refine TC _ rfl (fun h11 => ?_) (fun h11 => ?_)
  ·replace hm := JT h11 hm
   refine TS (WT (WN [0, 4, 5, 6, 26, 27, 28] rfl rfl (TQ (TB (RS ?_)))))
   obtain ⟨e12, he12, hm⟩ := GV hm
   refine SX rfl rfl (x_ix TK rfl rfl rfl rfl he12) (SA TK rfl (SA TK rfl (TN (WN [0, 4, 5, 6, 8, 26, 27, 28] rfl rfl (TG (SA TK rfl (SA TK rfl (SA TK rfl ?_))))))))
   obtain ⟨r13, hr13, hm⟩ := BI hm
   refine SX rfl rfl (rd_callH [0, 1] ⟨rfl, rfl, fun _ => rfl⟩ rfl rfl rfl (by decide) rfl (closedH_of rfl) rfl rfl (compile_builder_free_c hr13)) ?_
   refine SX rfl rfl (x_litE (f := Expr.encR) (xs := ([r13] : List Expr)) [.tmp 35] TK rfl rfl zero38 rfl (evD_of rfl (encs_cons (Expr.encR_eq _) encs_nil)) rfl (litE_size Expr.encR_cells) rfl) ?_
   obtain ⟨g14, hm⟩ := GI hm
   refine s_app (f := Expr.encR) ([r13] : List Expr) TK rfl rfl zero38 rfl rfl rfl rfl rfl (fun h => absurd (show 4 < 2 from h) (by decide)) rfl src_d g14 rfl rfl ?_
   refine SA TK rfl (TN (WK (WT (WN [0, 4, 5, 6, 26, 27, 28] rfl rfl (TG ?_)))))
   obtain ⟨g15, hm⟩ := GI hm
   refine SX rfl rfl (x_ar rfl rfl rfl rfl g15) (SA TK rfl (TN (WT ?_)))
   exact ⟨_, [0, 1, 2, 3, 4], (SJ hm), rfl, (kB rfl), rfl⟩
  ·replace hm := JF h11 hm
   refine twp_exit (WX ?_)
   obtain ⟨v16, hm, hz⟩ := II hm
   rw [hz10 _ hz] at hm
   refine WX (WH (WT ?_))
   exact ⟨_, [0, 1, 2, 3, 4], (SJ hm), rfl, (kB rfl), rfl⟩
 ·refine WN [0, 4, 5, 6] rfl rfl ?_
  refine w_joinM hm (fun b17 => ([(6, .msl 4 3 0 b17.length)] : Fr)) (fun b17 => ([(4, .flat 38 3 (b17.map Expr.encR))] : List (Nat × Blk))) [6] [4] rfl (fun z18 hm => ?_) (fun b17 hm => ?_)
  ·refine RS (SA TK rfl ?_)
   obtain ⟨r19, hr19, hm⟩ := BI hm
   refine SX rfl rfl (RD rfl rfl rfl (table_Settings_c hr19)) (SX rfl rfl (x_len TK rfl rfl rfl) (SA TK rfl (TN (WN [0, 4, 6, 40, 41, 42] rfl rfl (TB (w_loop hm (fun (x23, b24) => ([(6, .msl 4 3 0 b24.length), (42, .d (.int .i64 x23))] : Fr)) (fun (x23, b24) => ([(4, .flat 38 3 (b24.map Expr.encR))] : List (Nat × Blk))) [6, 42] [0, 4, 40, 41] [0, 1, 2, 3, 4] rfl (kB rfl) rfl rfl rfl rfl rfl (fun s z25 hm hz25 => ?_)))))))
   obtain ⟨x23, b24⟩ := s
   refine WN [0, 4, 6, 40, 41, 42] rfl rfl (RS (SA TK rfl (TN (WN [0, 4, 6, 40, 41, 42, 43] rfl rfl (TQ ?_)))))
   refine TC _ rfl (fun h26 => ?_) (fun h26 => ?_)
   ·replace hm := JT h26 hm
    refine TS (WT (WN [0, 4, 6, 40, 41, 42] rfl rfl (TQ (TB (RS ?_)))))
    obtain ⟨e27, he27, hm⟩ := GV hm
    refine SX rfl rfl (x_ix TK rfl rfl rfl rfl he27) (SA TK rfl (s_al 5 rfl rfl zero133 rfl (SA TK rfl (TN (WN [0, 4, 6, 10, 40, 41, 42] rfl rfl (RS (SA TK rfl (TN ?_))))))))
    refine WN [0, 4, 6, 10, 11, 40, 41, 42] rfl rfl ?_
    refine w_joinM hm (fun kind28 => ([(11, .d (.int .i64 kind28))] : Fr)) (fun kind28 => ([] : List (Nat × Blk))) [11] [0, 4, 6, 10, 40, 41, 42] rfl (fun z29 hm => ?_) (fun kind28 hm => ?_)
    ·refine RS (SA TK rfl (SA TK rfl (SA TK rfl (TN (WN [0, 4, 6, 10, 11, 40, 41, 42, 48] rfl rfl ?_)))))
     refine TC _ rfl (fun h30 => ?_) (fun h30 => ?_)
     ·replace hm := JT h30 hm
      refine TG (SA TK rfl (TN (WT ?_)))
      exact ⟨_, [0, 1, 2, 3, 4, 5], (SJ hm), rfl, (kB rfl), rfl⟩
     ·replace hm := JF h30 hm
      refine TS (WT ?_)
      exact ⟨_, [0, 1, 2, 3, 4, 5], (SJ hm), rfl, (kB rfl), rfl⟩
    ·refine WN [0, 4, 6, 10, 11, 40, 41, 42] rfl rfl (twp_draw follows  ?_)
     iterate 12 (refine DA [0, 1, 2, 3, 4, 5] TK rfl ?_)
     obtain ⟨r31, hr31, hm⟩ := BI hm
     refine DX [0, 1, 2, 3, 4, 5] rfl rfl (RN rfl rfl (SC (.d _) (SC (.d _) SN)) (table_Index_c hr31)) (DA [0, 1, 2, 3, 4, 5] TK rfl ?_)
     obtain ⟨r32, hr32, hm⟩ := BI hm
     refine DX [0, 1, 2, 3, 4, 5] rfl rfl (RN rfl rfl (SC (.d _) (SC (.d _) (SC (.d _) SN))) (compile_numbering_points_c hr32)) ?_
     obtain ⟨r33, hr33, hm⟩ := BI hm
     refine DX [0, 1, 2, 3, 4, 5] rfl rfl (RD rfl rfl rfl (compile_val_c hr33)) (DX [0, 1, 2, 3, 4, 5] rfl rfl (x_litE (f := Expr.encR) (xs := ([r33] : List Expr)) [.tmp 64] TK rfl rfl zero38 rfl (evD_of rfl (encs_cons (Expr.encR_eq _) encs_nil)) rfl (litE_size Expr.encR_cells) rfl) ?_)
     refine DT ?_ (by kernel_rfl)
     obtain ⟨g34, hm⟩ := GI hm
     refine s_app (f := Expr.encR) ([r33] : List Expr) TK rfl rfl zero38 rfl rfl rfl rfl rfl (fun h => absurd (show 4 < 2 from h) (by decide)) rfl src_d g34 rfl rfl ?_
     refine SA TK rfl (TN (WK (WT (WN [0, 4, 6, 40, 41, 42] rfl rfl (TG ?_)))))
     obtain ⟨g35, hm⟩ := GI hm
     refine SX rfl rfl (x_ar rfl rfl rfl rfl g35) (SA TK rfl (TN (WT ?_)))
     exact ⟨_, [0, 1, 2, 3, 4], (SJ hm), rfl, (kB rfl), rfl⟩
   ·replace hm := JF h26 hm
    refine twp_exit (WX ?_)
    obtain ⟨v36, hm, hz⟩ := II hm
    rw [hz25 _ hz] at hm
    refine WX (WH (WT ?_))
    exact ⟨_, [0, 1, 2, 3, 4], (SJ hm), rfl, (kB rfl), rfl⟩
  ·refine WN [4, 6] rfl rfl ?_
   refine c_frzO 6 4 [4] rfl rfl rfl rfl rfl (by simp) rfl rfl ?_
   refine RS (SA TK rfl ?_)
   obtain ⟨r37, hr37, hm⟩ := BI hm
   refine SX rfl rfl (RD rfl rfl rfl (compile_and_c hr37)) (SA TK rfl (TN (WN [4] rfl rfl (TR ?_))))
   obtain rfl := OJ hm
   exact ⟨_, [0, 1], .mk _ (.cons (.agg (TK.lay rfl) rfl rfl rfl rfl) .nil) rfl, by decide, (kB rfl), rfl, rfl⟩

end Go.Proofs.YtcagmechagiclaaGreatDoor

set_option maxHeartbeats 8000000
set_option linter.unusedSimpArgs false
set_option linter.unusedVariables false
set_option maxRecDepth 20000
namespace Go.Proofs.YtcagmechagiclaaGreatDoor
open Go Go.TL

theorem compile_builder_set_c {p0 : Builder} {p1 : Int} {p2 : Expr} {r : Builder} (hm : compile_builder_set p0 p1 p2 = some r) : Ret Tryz.prog 34 [.box 81 [.d (.sl 14 (p0.numbering.t.routes.map Route.enc)), .d (.sl 1 (p0.numbering.t.points.map (D.int .i64))), .d (.sl 1 (p0.numbering.t.homes.map (D.int .i64))), .d (.int .i64 p0.numbering.t.sections), .d (.int .i64 p0.numbering.t.signals), .d (.int .i64 p0.numbering.inputs), .d (.sl 1 (p0.numbering.bases.map (D.int .i64))), .d (.int .i64 p0.numbering.extra), .d (.int .i64 p0.numbering.count), .msl 1 6 0 p0.rungs.length], .flat 40 6 (p0.rungs.map Rung.enc)] (fun j => Nat.beq j 1) [.mptr 0 0 0 0, .d (.int .i64 p1), .d (p2.enc)] (.tup []) [.box 81 [.d (.sl 14 (p0.numbering.t.routes.map Route.enc)), .d (.sl 1 (p0.numbering.t.points.map (D.int .i64))), .d (.sl 1 (p0.numbering.t.homes.map (D.int .i64))), .d (.int .i64 p0.numbering.t.sections), .d (.int .i64 p0.numbering.t.signals), .d (.int .i64 p0.numbering.inputs), .d (.sl 1 (p0.numbering.bases.map (D.int .i64))), .d (.int .i64 p0.numbering.extra), .d (.int .i64 p0.numbering.count), .msl 1 6 0 r.rungs.length], .flat 40 6 (r.rungs.map Rung.enc)] := by
 refine ret_body callB34 Tryz.func34 rfl Tryz.ntmps34 rfl rfl (fun wX gX => ?_)
 unfold compile_builder_set at hm
 refine WN [0, 1, 2] rfl rfl (RS (s_bx 2 rfl rfl rfl (TN (WN [0, 1, 5] rfl rfl (twp_draw follows  ?_)))))
 iterate 7 (refine DA [0, 1, 2] TK rfl ?_)
 refine DX [0, 1, 2] rfl rfl (build_d rfl plc40 zero40 rfl rfl rfl rfl) (DX [0, 1, 2] rfl rfl (x_lit [.tmp 13] TK rfl rfl zero40 rfl rfl rfl rfl rfl) ?_)
 refine d_tailq 0 6 ?_ ?_ rfl (by kernel_rfl) (by kernel_rfl) (by kernel_rfl)
 ·obtain ⟨g1, hm⟩ := GI hm
  refine s_app (f := Rung.enc) ([(⟨(1 : Int), p1, (0 : Int), p2⟩ : Rung)] : List Rung) TK rfl rfl zero40 rfl rfl rfl rfl rfl (fun _ => rfl) rfl src_d g1 rfl rfl (SA TK rfl (SA TK rfl (SA TK rfl (TN ?_))))
  obtain rfl := OJ hm
  exact ⟨_, [0, 1], res rfl, by decide, (kB rfl), rfl, rfl⟩
 ·obtain ⟨g2, hm⟩ := GI hm
  refine s_app (f := Rung.enc) ([(⟨(1 : Int), p1, (0 : Int), p2⟩ : Rung)] : List Rung) TK rfl rfl zero40 rfl rfl rfl rfl rfl (fun _ => rfl) rfl src_d g2 rfl rfl ?_
  iterate 4 (refine SA TK rfl ?_)
  refine TN ?_
  obtain rfl := OJ hm
  exact ⟨_, [0, 1], res rfl, by decide, (kB rfl), rfl, rfl⟩

theorem compile_builder_current_c {p0 : Builder} {p1 : Int} {r : Expr} (hm : compile_builder_current p0 p1 = some r) : Ret Tryz.prog 88 [.box 81 [.d (.sl 14 (p0.numbering.t.routes.map Route.enc)), .d (.sl 1 (p0.numbering.t.points.map (D.int .i64))), .d (.sl 1 (p0.numbering.t.homes.map (D.int .i64))), .d (.int .i64 p0.numbering.t.sections), .d (.int .i64 p0.numbering.t.signals), .d (.int .i64 p0.numbering.inputs), .d (.sl 1 (p0.numbering.bases.map (D.int .i64))), .d (.int .i64 p0.numbering.extra), .d (.int .i64 p0.numbering.count), .msl 1 6 0 p0.rungs.length], .flat 40 6 (p0.rungs.map Rung.enc)] (fun _ => false) [.mptr 0 0 0 0, .d (.int .i64 p1)] (.d (r.enc)) [.box 81 [.d (.sl 14 (p0.numbering.t.routes.map Route.enc)), .d (.sl 1 (p0.numbering.t.points.map (D.int .i64))), .d (.sl 1 (p0.numbering.t.homes.map (D.int .i64))), .d (.int .i64 p0.numbering.t.sections), .d (.int .i64 p0.numbering.t.signals), .d (.int .i64 p0.numbering.inputs), .d (.sl 1 (p0.numbering.bases.map (D.int .i64))), .d (.int .i64 p0.numbering.extra), .d (.int .i64 p0.numbering.count), .msl 1 6 0 p0.rungs.length], .flat 40 6 (p0.rungs.map Rung.enc)] := by
 refine ret_body callB88 Tryz.func88 rfl Tryz.ntmps88 rfl rfl (fun wX gX => ?_)
 unfold compile_builder_current at hm
 refine WN [0, 1] rfl rfl (RS (s_al 2 rfl rfl zero38 rfl (s_wkb 2 [none, none, some 3] rfl rfl (TN (WN [0, 1, 4] rfl rfl (RS (s_nilO (f := Expr.encR) 3 38 3 rfl rfl rfl (TN ?_))))))))
 refine WN [0, 1, 4, 5] rfl rfl ?_
 refine w_joinM hm (fun b1 => ([(5, .msl 3 3 0 b1.length)] : Fr)) (fun b1 => ([(3, .flat 38 3 (b1.map Expr.encR))] : List (Nat × Blk))) [5] [4] rfl (fun z2 hm => ?_) (fun b1 hm => ?_)
 ·refine RS ?_
  iterate 7 (refine SA TK rfl ?_)
  obtain ⟨e3, he3, hm⟩ := GV hm
  refine SX rfl rfl (x_ix TK rfl rfl rfl rfl he3) (SA TK rfl (SA TK rfl (SX rfl rfl (x_len TK rfl rfl rfl) (SA TK rfl (TN (WN [0, 1, 4, 5, 18, 19, 20] rfl rfl (TB (w_loop hm (fun (x7, b8) => ([(5, .msl 3 3 0 b8.length), (20, .d (.int .i64 x7))] : Fr)) (fun (x7, b8) => ([(3, .flat 38 3 (b8.map Expr.encR))] : List (Nat × Blk))) [5, 20] [0, 1, 4, 18, 19] [0, 1, 2, 3] rfl (kB rfl) rfl rfl rfl rfl rfl (fun s z9 hm hz9 => ?_)))))))))
  obtain ⟨x7, b8⟩ := s
  refine WN [0, 1, 4, 5, 18, 19, 20] rfl rfl (RS (SA TK rfl (TN (WN [0, 1, 4, 5, 18, 19, 20, 21] rfl rfl (TQ ?_)))))
  refine TC _ rfl (fun h10 => ?_) (fun h10 => ?_)
  ·replace hm := JT h10 hm
   refine TS (WT (WN [0, 1, 4, 5, 18, 19, 20] rfl rfl (TQ (TB (RS (SA TK rfl ?_))))))
   obtain ⟨e11, he11, hm⟩ := GV hm
   refine SX rfl rfl (x_ix TK rfl rfl rfl rfl he11) (SA TK rfl (SA TK rfl (SA TK rfl (TN (WN [0, 1, 4, 5, 6, 7, 18, 19, 20] rfl rfl (RS (SA TK rfl (SA TK rfl ?_))))))))
   obtain ⟨r12, hr12, hm⟩ := BI hm
   refine SX rfl rfl (rd_callH [0, 1] ⟨rfl, rfl, fun _ => rfl⟩ rfl rfl rfl (by decide) rfl (closedH_of rfl) rfl rfl (compile_builder_free_c hr12)) ?_
   refine s_litO (f := Expr.encR) 4 [.tmp 27] ([r12] : List Expr) TK rfl rfl rfl zero38 rfl (evD_of rfl (encs_cons (Expr.encR_eq _) encs_nil)) rfl (litE_size Expr.encR_cells) rfl (SA TK rfl (TN (WN [0, 1, 4, 5, 6, 8, 18, 19, 20] rfl rfl ?_)))
   refine w_joinM hm (fun b13 => ([(8, .msl 4 3 0 b13.length)] : Fr)) (fun b13 => ([(4, .flat 38 3 (b13.map Expr.encR))] : List (Nat × Blk))) [8] [0, 1, 4, 5, 6, 18, 19, 20] rfl (fun z14 hm => ?_) (fun b13 hm => ?_)
   ·refine RS (SA TK rfl (SA TK rfl (TN (WN [0, 1, 4, 5, 6, 8, 18, 19, 20, 30] rfl rfl ?_))))
    refine TC _ rfl (fun h15 => ?_) (fun h15 => ?_)
    ·replace hm := JT h15 hm
     refine TG ?_
     iterate 4 (refine SA TK rfl ?_)
     obtain ⟨g16, hm⟩ := GI hm
     refine SX rfl rfl (x_ar rfl rfl rfl rfl g16) ?_
     obtain ⟨r17, hr17, hm⟩ := BI hm
     refine SX rfl rfl (rd_callH [0, 1] ⟨rfl, rfl, fun _ => rfl⟩ rfl rfl rfl (by decide) rfl (closedH_of rfl) rfl rfl (compile_builder_rel_c hr17)) ?_
     refine SX rfl rfl (x_litE (f := Expr.encR) (xs := ([r17] : List Expr)) [.tmp 36] TK rfl rfl zero38 rfl (evD_of rfl (encs_cons (Expr.encR_eq _) encs_nil)) rfl (litE_size Expr.encR_cells) rfl) ?_
     obtain ⟨g18, hm⟩ := GI hm
     refine s_app (f := Expr.encR) ([r17] : List Expr) TK rfl rfl zero38 rfl rfl rfl rfl rfl (fun h => absurd (show 4 < 2 from h) (by decide)) rfl src_d g18 rfl rfl ?_
     refine SA TK rfl (TN (WT ?_))
     exact ⟨_, [0, 1, 2, 3, 4], (SJ hm), rfl, (kB rfl), rfl⟩
    ·replace hm := JF h15 hm
     refine TS (WT ?_)
     exact ⟨_, [0, 1, 2, 3, 4], (SJ hm), rfl, (kB rfl), rfl⟩
   ·refine WN [0, 1, 4, 5, 6, 8, 18, 19, 20] rfl rfl ?_
    refine w_joinM hm (fun b19 => ([(8, .msl 4 3 0 b19.length)] : Fr)) (fun b19 => ([(4, .flat 38 3 (b19.map Expr.encR))] : List (Nat × Blk))) [8] [0, 1, 4, 5, 18, 19, 20] rfl (fun z20 hm => ?_) (fun b19 hm => ?_)
    ·refine RS ?_
     iterate 6 (refine SA TK rfl ?_)
     obtain ⟨r21, hr21, hm⟩ := BI hm
     refine SX rfl rfl (RN rfl rfl (SC (.d _) (SC (.d _) SN)) (compile_numbering_last_c hr21)) (SA TK rfl (TN (WN [0, 1, 4, 5, 6, 8, 18, 19, 20, 46] rfl rfl ?_)))
     refine TC _ rfl (fun h22 => ?_) (fun h22 => ?_)
     ·replace hm := JT h22 hm
      refine TG ?_
      iterate 4 (refine SA TK rfl ?_)
      obtain ⟨r23, hr23, hm⟩ := BI hm
      refine SX rfl rfl (rd_callH [0, 1] ⟨rfl, rfl, fun _ => rfl⟩ rfl rfl rfl (by decide) rfl (closedH_of rfl) rfl rfl (compile_builder_rel_c hr23)) ?_
      obtain ⟨r24, hr24, hm⟩ := BI hm
      refine SX rfl rfl (RD rfl rfl rfl (compile_not_c hr24)) (SX rfl rfl (x_litE (f := Expr.encR) (xs := ([r24] : List Expr)) [.tmp 52] TK rfl rfl zero38 rfl (evD_of rfl (encs_cons (Expr.encR_eq _) encs_nil)) rfl (litE_size Expr.encR_cells) rfl) ?_)
      obtain ⟨g25, hm⟩ := GI hm
      refine s_app (f := Expr.encR) ([r24] : List Expr) TK rfl rfl zero38 rfl rfl rfl rfl rfl (fun h => absurd (show 4 < 2 from h) (by decide)) rfl src_d g25 rfl rfl ?_
      refine SA TK rfl (TN (WT ?_))
      exact ⟨_, [0, 1, 2, 3, 4], (SJ hm), rfl, (kB rfl), rfl⟩
     ·replace hm := JF h22 hm
      refine TS (WT ?_)
      exact ⟨_, [0, 1, 2, 3, 4], (SJ hm), rfl, (kB rfl), rfl⟩
    ·refine WN [0, 1, 4, 5, 8, 18, 19, 20] rfl rfl ?_
     refine c_frzO 8 4 [0, 1, 4, 5, 18, 19, 20] rfl rfl rfl rfl rfl (by simp) rfl rfl ?_
     refine TG (SA TK rfl (SA TK rfl ?_))
     obtain ⟨r26, hr26, hm⟩ := BI hm
     refine SX rfl rfl (RD rfl rfl rfl (compile_and_c hr26)) (SX rfl rfl (x_litE (f := Expr.encR) (xs := ([r26] : List Expr)) [.tmp 57] TK rfl rfl zero38 rfl (evD_of rfl (encs_cons (Expr.encR_eq _) encs_nil)) rfl (litE_size Expr.encR_cells) rfl) ?_)
     obtain ⟨g27, hm⟩ := GI hm
     refine s_app (f := Expr.encR) ([r26] : List Expr) TK rfl rfl zero38 rfl rfl rfl rfl rfl (fun h => absurd (show 3 < 2 from h) (by decide)) rfl src_d g27 rfl rfl ?_
     refine SA TK rfl (TN (WK (WT (WN [0, 1, 4, 5, 18, 19, 20] rfl rfl (TG ?_)))))
     obtain ⟨g28, hm⟩ := GI hm
     refine SX rfl rfl (x_ar rfl rfl rfl rfl g28) (SA TK rfl (TN (WT ?_)))
     exact ⟨_, [0, 1, 2, 3], (SJ hm), rfl, (kB rfl), rfl⟩
  ·replace hm := JF h10 hm
   refine twp_exit (WX ?_)
   obtain ⟨v29, hm, hz⟩ := II hm
   rw [hz9 _ hz] at hm
   refine WX (WH (WT ?_))
   exact ⟨_, [0, 1, 2, 3], (SJ hm), rfl, (kB rfl), rfl⟩
 ·refine WN [4, 5] rfl rfl ?_
  refine c_frzO 5 3 [4] rfl rfl rfl rfl rfl (by simp) rfl rfl ?_
  refine RS (SA TK rfl ?_)
  obtain ⟨r30, hr30, hm⟩ := BI hm
  refine SX rfl rfl (RD rfl rfl rfl (compile_or_c hr30)) (SA TK rfl (TN (WN [4] rfl rfl (TR ?_))))
  obtain rfl := OJ hm
  exact ⟨_, [0, 1], .mk _ (.cons (.agg (TK.lay rfl) rfl rfl rfl rfl) .nil) rfl, by decide, (kB rfl), rfl, rfl⟩

theorem compile_builder_clears_c {p0 : Builder} {p1 : Int} {r : Expr} (hm : compile_builder_clears p0 p1 = some r) : Ret Tryz.prog 89 [.box 81 [.d (.sl 14 (p0.numbering.t.routes.map Route.enc)), .d (.sl 1 (p0.numbering.t.points.map (D.int .i64))), .d (.sl 1 (p0.numbering.t.homes.map (D.int .i64))), .d (.int .i64 p0.numbering.t.sections), .d (.int .i64 p0.numbering.t.signals), .d (.int .i64 p0.numbering.inputs), .d (.sl 1 (p0.numbering.bases.map (D.int .i64))), .d (.int .i64 p0.numbering.extra), .d (.int .i64 p0.numbering.count), .msl 1 6 0 p0.rungs.length], .flat 40 6 (p0.rungs.map Rung.enc)] (fun _ => false) [.mptr 0 0 0 0, .d (.int .i64 p1)] (.d (r.enc)) [.box 81 [.d (.sl 14 (p0.numbering.t.routes.map Route.enc)), .d (.sl 1 (p0.numbering.t.points.map (D.int .i64))), .d (.sl 1 (p0.numbering.t.homes.map (D.int .i64))), .d (.int .i64 p0.numbering.t.sections), .d (.int .i64 p0.numbering.t.signals), .d (.int .i64 p0.numbering.inputs), .d (.sl 1 (p0.numbering.bases.map (D.int .i64))), .d (.int .i64 p0.numbering.extra), .d (.int .i64 p0.numbering.count), .msl 1 6 0 p0.rungs.length], .flat 40 6 (p0.rungs.map Rung.enc)] := by
 refine ret_body callB89 Tryz.func89 rfl Tryz.ntmps89 rfl rfl (fun wX gX => ?_)
 unfold compile_builder_clears at hm
 refine WN [0, 1] rfl rfl (RS (s_al 2 rfl rfl zero38 rfl (s_wkb 2 [none, none, some 3] rfl rfl (TN (WN [0, 1, 4] rfl rfl (RS (SA TK rfl (SA TK rfl ?_))))))))
 obtain ⟨r1, hr1, hm⟩ := BI hm
 refine SX rfl rfl (rd_callH [0, 1] ⟨rfl, rfl, fun _ => rfl⟩ rfl rfl rfl (by decide) rfl (closedH_of rfl) rfl rfl (compile_builder_status_c hr1)) ?_
 refine SA TK rfl (SA TK rfl ?_)
 obtain ⟨r2, hr2, hm⟩ := BI hm
 refine SX rfl rfl (rd_callH [0, 1] ⟨rfl, rfl, fun _ => rfl⟩ rfl rfl rfl (by decide) rfl (closedH_of rfl) rfl rfl (compile_builder_status_c hr2)) ?_
 refine SX rfl rfl (x_litE (f := Expr.encR) (xs := ([r1, r2] : List Expr)) [.tmp 7, .tmp 10] TK rfl rfl zero38 rfl (evD_of rfl (encs_cons (Expr.encR_eq _) (encs_cons (Expr.encR_eq _) encs_nil))) rfl (litE_size Expr.encR_cells) rfl) ?_
 obtain ⟨r3, hr3, hm⟩ := BI hm
 refine SX rfl rfl (RD rfl rfl rfl (compile_or_c hr3)) (SA TK rfl (SA TK rfl ?_))
 obtain ⟨r4, hr4, hm⟩ := BI hm
 refine SX rfl rfl (rd_callH [0, 1] ⟨rfl, rfl, fun _ => rfl⟩ rfl rfl rfl (by decide) rfl (closedH_of rfl) rfl rfl (compile_builder_ask_c hr4)) ?_
 obtain ⟨r5, hr5, hm⟩ := BI hm
 refine SX rfl rfl (RD rfl rfl rfl (compile_not_c hr5)) (SA TK rfl (SA TK rfl ?_))
 obtain ⟨r6, hr6, hm⟩ := BI hm
 refine SX rfl rfl (rd_callH [0, 1] ⟨rfl, rfl, fun _ => rfl⟩ rfl rfl rfl (by decide) rfl (closedH_of rfl) rfl rfl (compile_builder_proved_c hr6)) ?_
 refine SX rfl rfl (x_litE (f := Expr.encR) (xs := ([r3, r5, r6] : List Expr)) [.tmp 12, .tmp 16, .tmp 19] TK rfl rfl zero38 rfl (evD_of rfl (encs_cons (Expr.encR_eq _) (encs_cons (Expr.encR_eq _) (encs_cons (Expr.encR_eq _) encs_nil)))) rfl (litE_size Expr.encR_cells) rfl) ?_
 obtain ⟨r7, hr7, hm⟩ := BI hm
 refine SX rfl rfl (RD rfl rfl rfl (compile_and_c hr7)) (SA TK rfl (TN (WN [4] rfl rfl (TR ?_))))
 obtain rfl := OJ hm
 exact ⟨_, [0, 1], .mk _ (.cons (.agg (TK.lay rfl) rfl rfl rfl rfl) .nil) rfl, by decide, (kB rfl), rfl, rfl⟩

theorem compile_builder_progress_c {p0 : Builder} {p1 : Int} {r : Builder} (hm : compile_builder_progress p0 p1 = some r) : Ret Tryz.prog 32 [.box 81 [.d (.sl 14 (p0.numbering.t.routes.map Route.enc)), .d (.sl 1 (p0.numbering.t.points.map (D.int .i64))), .d (.sl 1 (p0.numbering.t.homes.map (D.int .i64))), .d (.int .i64 p0.numbering.t.sections), .d (.int .i64 p0.numbering.t.signals), .d (.int .i64 p0.numbering.inputs), .d (.sl 1 (p0.numbering.bases.map (D.int .i64))), .d (.int .i64 p0.numbering.extra), .d (.int .i64 p0.numbering.count), .msl 1 6 0 p0.rungs.length], .flat 40 6 (p0.rungs.map Rung.enc)] (fun j => Nat.beq j 1) [.mptr 0 0 0 0, .d (.int .i64 p1)] (.tup []) [.box 81 [.d (.sl 14 (p0.numbering.t.routes.map Route.enc)), .d (.sl 1 (p0.numbering.t.points.map (D.int .i64))), .d (.sl 1 (p0.numbering.t.homes.map (D.int .i64))), .d (.int .i64 p0.numbering.t.sections), .d (.int .i64 p0.numbering.t.signals), .d (.int .i64 p0.numbering.inputs), .d (.sl 1 (p0.numbering.bases.map (D.int .i64))), .d (.int .i64 p0.numbering.extra), .d (.int .i64 p0.numbering.count), .msl 1 6 0 r.rungs.length], .flat 40 6 (r.rungs.map Rung.enc)] := by
 refine ret_body callB32 Tryz.func32 rfl Tryz.ntmps32 rfl rfl (fun wX gX => ?_)
 unfold compile_builder_progress at hm
 refine WN [0, 1] rfl rfl (RS ?_)
 iterate 7 (refine SA TK rfl ?_)
 obtain ⟨e1, he1, hm⟩ := GV hm
 refine SX rfl rfl (x_ix TK rfl rfl rfl rfl he1) (SA TK rfl (s_al 2 rfl rfl zero74 rfl (s_wkb 2 [none, none, none, some 3, some 2, some 1, none, none, some 3, some 2, some 1, some 2, some 1, some 2] rfl rfl (SA TK rfl (TN (WN [0, 1, 4] rfl rfl (twp_dseq follows  ?_)))))))
 iterate 2 (refine DA [0, 1, 2] TK rfl ?_)
 obtain ⟨e2, he2, hm⟩ := GV hm
 refine DX [0, 1, 2] rfl rfl (x_ix TK rfl rfl rfl rfl he2) ?_
 iterate 8 (refine DA [0, 1, 2] TK rfl ?_)
 obtain ⟨r3, hr3, hm⟩ := BI hm
 refine DX [0, 1, 2] rfl rfl (RN rfl rfl (SC (.d _) (SC (.d _) SN)) (compile_numbering_last_c hr3)) ?_
 obtain ⟨e4, he4, hm⟩ := GV hm
 refine DX [0, 1, 2] rfl rfl (x_ix TK rfl rfl rfl rfl he4) ?_
 iterate 2 (refine DA [0, 1, 2] TK rfl ?_)
 refine DT ?_ (by kernel_rfl)
 refine SA TK rfl (TN (WN [0, 1, 4, 5, 6] rfl rfl (RS ?_)))
 iterate 6 (refine SA TK rfl ?_)
 obtain ⟨r5, hr5, hm⟩ := BI hm
 refine SX rfl rfl (RN rfl rfl (SC (.d _) (SC (.d _) (SC (.d _) SN))) (compile_numbering_aux_c hr5)) (SA TK rfl (SA TK rfl ?_))
 obtain ⟨r6, hr6, hm⟩ := BI hm
 refine SX rfl rfl (rd_callH [0, 1] ⟨rfl, rfl, fun _ => rfl⟩ rfl rfl rfl (by decide) rfl (closedH_of rfl) rfl rfl (compile_builder_status_c hr6)) ?_
 refine SA TK rfl (SA TK rfl ?_)
 obtain ⟨r7, hr7, hm⟩ := BI hm
 refine SX rfl rfl (rd_callH [0, 1] ⟨rfl, rfl, fun _ => rfl⟩ rfl rfl rfl (by decide) rfl (closedH_of rfl) rfl rfl (compile_builder_ask_c hr7)) ?_
 obtain ⟨r8, hr8, hm⟩ := BI hm
 refine SX rfl rfl (RD rfl rfl rfl (compile_not_c hr8)) (SA TK rfl (SA TK rfl ?_))
 obtain ⟨r9, hr9, hm⟩ := BI hm
 refine SX rfl rfl (rd_callH [0, 1] ⟨rfl, rfl, fun _ => rfl⟩ rfl rfl rfl (by decide) rfl (closedH_of rfl) rfl rfl (compile_builder_proved_c hr9)) ?_
 obtain ⟨r10, hr10, hm⟩ := BI hm
 refine SX rfl rfl (RD rfl rfl rfl (compile_not_c hr10)) (SX rfl rfl (x_litE (f := Expr.encR) (xs := ([r6, r8, r10] : List Expr)) [.tmp 39, .tmp 43, .tmp 47] TK rfl rfl zero38 rfl (evD_of rfl (encs_cons (Expr.encR_eq _) (encs_cons (Expr.encR_eq _) (encs_cons (Expr.encR_eq _) encs_nil)))) rfl (litE_size Expr.encR_cells) rfl) ?_)
 obtain ⟨r11, hr11, hm⟩ := BI hm
 refine SX rfl rfl (RD rfl rfl rfl (compile_and_c hr11)) ?_
 obtain ⟨r12, hr12, hm⟩ := BI hm
 refine s_callM [0, 1] (fun j => Nat.beq j 1) rfl rfl rfl (by decide) rfl rfl rfl rfl (compile_builder_set_c hr12) rfl rfl rfl ?_
 refine TN (WN [0, 1, 4, 5, 6] rfl rfl (twp_dseq follows  ?_))
 iterate 6 (refine DA [0, 1, 2] TK rfl ?_)
 obtain ⟨r13, hr13, hm⟩ := BI hm
 refine DX [0, 1, 2] rfl rfl (RN rfl rfl (SC (.d _) (SC (.d _) (SC (.d _) SN))) (compile_numbering_aux_c hr13)) ?_
 iterate 2 (refine DA [0, 1, 2] TK rfl ?_)
 obtain ⟨r14, hr14, hm⟩ := BI hm
 refine DX [0, 1, 2] rfl rfl (rd_callH [0, 1] ⟨rfl, rfl, fun _ => rfl⟩ rfl rfl rfl (by decide) rfl (closedH_of rfl) rfl rfl (compile_builder_status_c hr14)) ?_
 iterate 2 (refine DA [0, 1, 2] TK rfl ?_)
 obtain ⟨r15, hr15, hm⟩ := BI hm
 refine DX [0, 1, 2] rfl rfl (rd_callH [0, 1] ⟨rfl, rfl, fun _ => rfl⟩ rfl rfl rfl (by decide) rfl (closedH_of rfl) rfl rfl (compile_builder_free_c hr15)) ?_
 obtain ⟨r16, hr16, hm⟩ := BI hm
 refine DX [0, 1, 2] rfl rfl (RD rfl rfl rfl (compile_not_c hr16)) (DX [0, 1, 2] rfl rfl (x_litE (f := Expr.encR) (xs := ([r14, r16] : List Expr)) [.tmp 60, .tmp 64] TK rfl rfl zero38 rfl (evD_of rfl (encs_cons (Expr.encR_eq _) (encs_cons (Expr.encR_eq _) encs_nil))) rfl (litE_size Expr.encR_cells) rfl) ?_)
 obtain ⟨r17, hr17, hm⟩ := BI hm
 refine DX [0, 1, 2] rfl rfl (RD rfl rfl rfl (compile_and_c hr17)) ?_
 iterate 2 (refine DA [0, 1, 2] TK rfl ?_)
 obtain ⟨r18, hr18, hm⟩ := BI hm
 refine DX [0, 1, 2] rfl rfl (rd_callH [0, 1] ⟨rfl, rfl, fun _ => rfl⟩ rfl rfl rfl (by decide) rfl (closedH_of rfl) rfl rfl (compile_builder_status_c hr18)) ?_
 iterate 2 (refine DA [0, 1, 2] TK rfl ?_)
 obtain ⟨r19, hr19, hm⟩ := BI hm
 refine DX [0, 1, 2] rfl rfl (rd_callH [0, 1] ⟨rfl, rfl, fun _ => rfl⟩ rfl rfl rfl (by decide) rfl (closedH_of rfl) rfl rfl (compile_builder_ask_c hr19)) ?_
 obtain ⟨r20, hr20, hm⟩ := BI hm
 refine DX [0, 1, 2] rfl rfl (RD rfl rfl rfl (compile_not_c hr20)) ?_
 iterate 2 (refine DA [0, 1, 2] TK rfl ?_)
 obtain ⟨r21, hr21, hm⟩ := BI hm
 refine DX [0, 1, 2] rfl rfl (rd_callH [0, 1] ⟨rfl, rfl, fun _ => rfl⟩ rfl rfl rfl (by decide) rfl (closedH_of rfl) rfl rfl (compile_builder_ask_c hr21)) ?_
 iterate 2 (refine DA [0, 1, 2] TK rfl ?_)
 obtain ⟨r22, hr22, hm⟩ := BI hm
 refine DX [0, 1, 2] rfl rfl (rd_callH [0, 1] ⟨rfl, rfl, fun _ => rfl⟩ rfl rfl rfl (by decide) rfl (closedH_of rfl) rfl rfl (compile_builder_emptied_c hr22)) ?_
 refine DX [0, 1, 2] rfl rfl (x_litE (f := Expr.encR) (xs := ([r21, r22] : List Expr)) [.tmp 76, .tmp 79] TK rfl rfl zero38 rfl (evD_of rfl (encs_cons (Expr.encR_eq _) (encs_cons (Expr.encR_eq _) encs_nil))) rfl (litE_size Expr.encR_cells) rfl) ?_
 obtain ⟨r23, hr23, hm⟩ := BI hm
 refine DX [0, 1, 2] rfl rfl (RD rfl rfl rfl (compile_and_c hr23)) ?_
 obtain ⟨r24, hr24, hm⟩ := BI hm
 refine DX [0, 1, 2] rfl rfl (RD rfl rfl rfl (compile_not_c hr24)) ?_
 iterate 2 (refine DA [0, 1, 2] TK rfl ?_)
 obtain ⟨r25, hr25, hm⟩ := BI hm
 refine DX [0, 1, 2] rfl rfl (rd_callH [0, 1] ⟨rfl, rfl, fun _ => rfl⟩ rfl rfl rfl (by decide) rfl (closedH_of rfl) rfl rfl (compile_builder_atLast_c hr25)) ?_
 iterate 2 (refine DA [0, 1, 2] TK rfl ?_)
 obtain ⟨r26, hr26, hm⟩ := BI hm
 refine DX [0, 1, 2] rfl rfl (rd_callH [0, 1] ⟨rfl, rfl, fun _ => rfl⟩ rfl rfl rfl (by decide) rfl (closedH_of rfl) rfl rfl (compile_builder_free_c hr26)) ?_
 refine DX [0, 1, 2] rfl rfl (x_litE (f := Expr.encR) (xs := ([r25, r26] : List Expr)) [.tmp 85, .tmp 88] TK rfl rfl zero38 rfl (evD_of rfl (encs_cons (Expr.encR_eq _) (encs_cons (Expr.encR_eq _) encs_nil))) rfl (litE_size Expr.encR_cells) rfl) ?_
 obtain ⟨r27, hr27, hm⟩ := BI hm
 refine DX [0, 1, 2] rfl rfl (RD rfl rfl rfl (compile_and_c hr27)) ?_
 obtain ⟨r28, hr28, hm⟩ := BI hm
 refine DX [0, 1, 2] rfl rfl (RD rfl rfl rfl (compile_not_c hr28)) ?_
 iterate 5 (refine DA [0, 1, 2] TK rfl ?_)
 obtain ⟨r29, hr29, hm⟩ := BI hm
 refine DX [0, 1, 2] rfl rfl (RN rfl rfl (SC (.d _) (SC (.d _) SN)) (compile_numbering_stand_c hr29)) ?_
 obtain ⟨r30, hr30, hm⟩ := BI hm
 refine DX [0, 1, 2] rfl rfl (RD rfl rfl rfl (compile_val_c hr30)) ?_
 obtain ⟨r31, hr31, hm⟩ := BI hm
 refine DX [0, 1, 2] rfl rfl (RD rfl rfl rfl (compile_not_c hr31)) (DX [0, 1, 2] rfl rfl (x_litE (f := Expr.encR) (xs := ([r24, r28, r31] : List Expr)) [.tmp 82, .tmp 91, .tmp 99] TK rfl rfl zero38 rfl (evD_of rfl (encs_cons (Expr.encR_eq _) (encs_cons (Expr.encR_eq _) (encs_cons (Expr.encR_eq _) encs_nil)))) rfl (litE_size Expr.encR_cells) rfl) ?_)
 obtain ⟨r32, hr32, hm⟩ := BI hm
 refine DX [0, 1, 2] rfl rfl (RD rfl rfl rfl (compile_and_c hr32)) (DX [0, 1, 2] rfl rfl (x_litE (f := Expr.encR) (xs := ([r20, r32] : List Expr)) [.tmp 73, .tmp 101] TK rfl rfl zero38 rfl (evD_of rfl (encs_cons (Expr.encR_eq _) (encs_cons (Expr.encR_eq _) encs_nil))) rfl (litE_size Expr.encR_cells) rfl) ?_)
 obtain ⟨r33, hr33, hm⟩ := BI hm
 refine DX [0, 1, 2] rfl rfl (RD rfl rfl rfl (compile_or_c hr33)) (DX [0, 1, 2] rfl rfl (x_litE (f := Expr.encR) (xs := ([r18, r33] : List Expr)) [.tmp 69, .tmp 103] TK rfl rfl zero38 rfl (evD_of rfl (encs_cons (Expr.encR_eq _) (encs_cons (Expr.encR_eq _) encs_nil))) rfl (litE_size Expr.encR_cells) rfl) ?_)
 obtain ⟨r34, hr34, hm⟩ := BI hm
 refine DX [0, 1, 2] rfl rfl (RD rfl rfl rfl (compile_and_c hr34)) ?_
 iterate 2 (refine DA [0, 1, 2] TK rfl ?_)
 obtain ⟨r35, hr35, hm⟩ := BI hm
 refine DX [0, 1, 2] rfl rfl (rd_callH [0, 1] ⟨rfl, rfl, fun _ => rfl⟩ rfl rfl rfl (by decide) rfl (closedH_of rfl) rfl rfl (compile_builder_status_c hr35)) ?_
 iterate 2 (refine DA [0, 1, 2] TK rfl ?_)
 obtain ⟨r36, hr36, hm⟩ := BI hm
 refine DX [0, 1, 2] rfl rfl (rd_callH [0, 1] ⟨rfl, rfl, fun _ => rfl⟩ rfl rfl rfl (by decide) rfl (closedH_of rfl) rfl rfl (compile_builder_current_c hr36)) ?_
 obtain ⟨r37, hr37, hm⟩ := BI hm
 refine DX [0, 1, 2] rfl rfl (RD rfl rfl rfl (compile_not_c hr37)) (DX [0, 1, 2] rfl rfl (x_litE (f := Expr.encR) (xs := ([r35, r37] : List Expr)) [.tmp 108, .tmp 112] TK rfl rfl zero38 rfl (evD_of rfl (encs_cons (Expr.encR_eq _) (encs_cons (Expr.encR_eq _) encs_nil))) rfl (litE_size Expr.encR_cells) rfl) ?_)
 obtain ⟨r38, hr38, hm⟩ := BI hm
 refine DX [0, 1, 2] rfl rfl (RD rfl rfl rfl (compile_and_c hr38)) (DX [0, 1, 2] rfl rfl (x_litE (f := Expr.encR) (xs := ([r17, r34, r38] : List Expr)) [.tmp 66, .tmp 105, .tmp 114] TK rfl rfl zero38 rfl (evD_of rfl (encs_cons (Expr.encR_eq _) (encs_cons (Expr.encR_eq _) (encs_cons (Expr.encR_eq _) encs_nil)))) rfl (litE_size Expr.encR_cells) rfl) ?_)
 obtain ⟨r39, hr39, hm⟩ := BI hm
 refine DX [0, 1, 2] rfl rfl (RD rfl rfl rfl (compile_or_c hr39)) ?_
 refine DT ?_ (by kernel_rfl)
 obtain ⟨r40, hr40, hm⟩ := BI hm
 refine s_callM [0, 1] (fun j => Nat.beq j 1) rfl rfl rfl (by decide) rfl rfl rfl rfl (compile_builder_set_c hr40) rfl rfl rfl ?_
 refine TN (WN [0, 1, 4, 5] rfl rfl (twp_dseq follows  ?_))
 iterate 6 (refine DA [0, 1, 2] TK rfl ?_)
 obtain ⟨r41, hr41, hm⟩ := BI hm
 refine DX [0, 1, 2] rfl rfl (RN rfl rfl (SC (.d _) (SC (.d _) (SC (.d _) SN))) (compile_numbering_aux_c hr41)) ?_
 iterate 2 (refine DA [0, 1, 2] TK rfl ?_)
 obtain ⟨r42, hr42, hm⟩ := BI hm
 refine DX [0, 1, 2] rfl rfl (rd_callH [0, 1] ⟨rfl, rfl, fun _ => rfl⟩ rfl rfl rfl (by decide) rfl (closedH_of rfl) rfl rfl (compile_builder_status_c hr42)) ?_
 iterate 2 (refine DA [0, 1, 2] TK rfl ?_)
 obtain ⟨r43, hr43, hm⟩ := BI hm
 refine DX [0, 1, 2] rfl rfl (rd_callH [0, 1] ⟨rfl, rfl, fun _ => rfl⟩ rfl rfl rfl (by decide) rfl (closedH_of rfl) rfl rfl (compile_builder_free_c hr43)) ?_
 iterate 2 (refine DA [0, 1, 2] TK rfl ?_)
 obtain ⟨r44, hr44, hm⟩ := BI hm
 refine DX [0, 1, 2] rfl rfl (rd_callH [0, 1] ⟨rfl, rfl, fun _ => rfl⟩ rfl rfl rfl (by decide) rfl (closedH_of rfl) rfl rfl (compile_builder_ask_c hr44)) ?_
 iterate 2 (refine DA [0, 1, 2] TK rfl ?_)
 obtain ⟨r45, hr45, hm⟩ := BI hm
 refine DX [0, 1, 2] rfl rfl (rd_callH [0, 1] ⟨rfl, rfl, fun _ => rfl⟩ rfl rfl rfl (by decide) rfl (closedH_of rfl) rfl rfl (compile_builder_ask_c hr45)) ?_
 iterate 3 (refine DA [0, 1, 2] TK rfl ?_)
 obtain ⟨r46, hr46, hm⟩ := BI hm
 refine DX [0, 1, 2] rfl rfl (rd_callH [0, 1] ⟨rfl, rfl, fun _ => rfl⟩ rfl rfl rfl (by decide) rfl (closedH_of rfl) rfl rfl (compile_builder_free_c hr46)) ?_
 refine DX [0, 1, 2] rfl rfl (x_litE (f := Expr.encR) (xs := ([r44, r45, r46] : List Expr)) [.tmp 133, .tmp 136, .tmp 140] TK rfl rfl zero38 rfl (evD_of rfl (encs_cons (Expr.encR_eq _) (encs_cons (Expr.encR_eq _) (encs_cons (Expr.encR_eq _) encs_nil)))) rfl (litE_size Expr.encR_cells) rfl) ?_
 obtain ⟨r47, hr47, hm⟩ := BI hm
 refine DX [0, 1, 2] rfl rfl (RD rfl rfl rfl (compile_and_c hr47)) ?_
 obtain ⟨r48, hr48, hm⟩ := BI hm
 refine DX [0, 1, 2] rfl rfl (RD rfl rfl rfl (compile_not_c hr48)) ?_
 iterate 2 (refine DA [0, 1, 2] TK rfl ?_)
 obtain ⟨r49, hr49, hm⟩ := BI hm
 refine DX [0, 1, 2] rfl rfl (rd_callH [0, 1] ⟨rfl, rfl, fun _ => rfl⟩ rfl rfl rfl (by decide) rfl (closedH_of rfl) rfl rfl (compile_builder_ask_c hr49)) ?_
 iterate 2 (refine DA [0, 1, 2] TK rfl ?_)
 obtain ⟨r50, hr50, hm⟩ := BI hm
 refine DX [0, 1, 2] rfl rfl (rd_callH [0, 1] ⟨rfl, rfl, fun _ => rfl⟩ rfl rfl rfl (by decide) rfl (closedH_of rfl) rfl rfl (compile_builder_proved_c hr50)) ?_
 obtain ⟨r51, hr51, hm⟩ := BI hm
 refine DX [0, 1, 2] rfl rfl (RD rfl rfl rfl (compile_not_c hr51)) (DX [0, 1, 2] rfl rfl (x_litE (f := Expr.encR) (xs := ([r49, r51] : List Expr)) [.tmp 146, .tmp 150] TK rfl rfl zero38 rfl (evD_of rfl (encs_cons (Expr.encR_eq _) (encs_cons (Expr.encR_eq _) encs_nil))) rfl (litE_size Expr.encR_cells) rfl) ?_)
 obtain ⟨r52, hr52, hm⟩ := BI hm
 refine DX [0, 1, 2] rfl rfl (RD rfl rfl rfl (compile_or_c hr52)) (DX [0, 1, 2] rfl rfl (x_litE (f := Expr.encR) (xs := ([r42, r43, r48, r52] : List Expr)) [.tmp 127, .tmp 130, .tmp 143, .tmp 152] TK rfl rfl zero38 rfl (evD_of rfl (encs_cons (Expr.encR_eq _) (encs_cons (Expr.encR_eq _) (encs_cons (Expr.encR_eq _) (encs_cons (Expr.encR_eq _) encs_nil))))) rfl (litE_size Expr.encR_cells) rfl) ?_)
 obtain ⟨r53, hr53, hm⟩ := BI hm
 refine DX [0, 1, 2] rfl rfl (RD rfl rfl rfl (compile_and_c hr53)) ?_
 iterate 2 (refine DA [0, 1, 2] TK rfl ?_)
 obtain ⟨r54, hr54, hm⟩ := BI hm
 refine DX [0, 1, 2] rfl rfl (rd_callH [0, 1] ⟨rfl, rfl, fun _ => rfl⟩ rfl rfl rfl (by decide) rfl (closedH_of rfl) rfl rfl (compile_builder_status_c hr54)) ?_
 iterate 2 (refine DA [0, 1, 2] TK rfl ?_)
 obtain ⟨r55, hr55, hm⟩ := BI hm
 refine DX [0, 1, 2] rfl rfl (rd_callH [0, 1] ⟨rfl, rfl, fun _ => rfl⟩ rfl rfl rfl (by decide) rfl (closedH_of rfl) rfl rfl (compile_builder_ask_c hr55)) ?_
 iterate 2 (refine DA [0, 1, 2] TK rfl ?_)
 obtain ⟨r56, hr56, hm⟩ := BI hm
 refine DX [0, 1, 2] rfl rfl (rd_callH [0, 1] ⟨rfl, rfl, fun _ => rfl⟩ rfl rfl rfl (by decide) rfl (closedH_of rfl) rfl rfl (compile_builder_ask_c hr56)) ?_
 iterate 2 (refine DA [0, 1, 2] TK rfl ?_)
 obtain ⟨r57, hr57, hm⟩ := BI hm
 refine DX [0, 1, 2] rfl rfl (rd_callH [0, 1] ⟨rfl, rfl, fun _ => rfl⟩ rfl rfl rfl (by decide) rfl (closedH_of rfl) rfl rfl (compile_builder_emptied_c hr57)) ?_
 refine DX [0, 1, 2] rfl rfl (x_litE (f := Expr.encR) (xs := ([r54, r55, r56, r57] : List Expr)) [.tmp 157, .tmp 160, .tmp 163, .tmp 166] TK rfl rfl zero38 rfl (evD_of rfl (encs_cons (Expr.encR_eq _) (encs_cons (Expr.encR_eq _) (encs_cons (Expr.encR_eq _) (encs_cons (Expr.encR_eq _) encs_nil))))) rfl (litE_size Expr.encR_cells) rfl) ?_
 obtain ⟨r58, hr58, hm⟩ := BI hm
 refine DX [0, 1, 2] rfl rfl (RD rfl rfl rfl (compile_and_c hr58)) ?_
 iterate 2 (refine DA [0, 1, 2] TK rfl ?_)
 obtain ⟨r59, hr59, hm⟩ := BI hm
 refine DX [0, 1, 2] rfl rfl (rd_callH [0, 1] ⟨rfl, rfl, fun _ => rfl⟩ rfl rfl rfl (by decide) rfl (closedH_of rfl) rfl rfl (compile_builder_status_c hr59)) ?_
 iterate 2 (refine DA [0, 1, 2] TK rfl ?_)
 obtain ⟨r60, hr60, hm⟩ := BI hm
 refine DX [0, 1, 2] rfl rfl (rd_callH [0, 1] ⟨rfl, rfl, fun _ => rfl⟩ rfl rfl rfl (by decide) rfl (closedH_of rfl) rfl rfl (compile_builder_current_c hr60)) ?_
 iterate 5 (refine DA [0, 1, 2] TK rfl ?_)
 obtain ⟨r61, hr61, hm⟩ := BI hm
 refine DX [0, 1, 2] rfl rfl (RN rfl rfl (SC (.d _) (SC (.d _) SN)) (compile_numbering_wait_c hr61)) ?_
 obtain ⟨r62, hr62, hm⟩ := BI hm
 refine DX [0, 1, 2] rfl rfl (RD rfl rfl rfl (compile_val_c hr62)) ?_
 obtain ⟨r63, hr63, hm⟩ := BI hm
 refine DX [0, 1, 2] rfl rfl (RD rfl rfl rfl (compile_not_c hr63)) (DX [0, 1, 2] rfl rfl (x_litE (f := Expr.encR) (xs := ([r59, r60, r63] : List Expr)) [.tmp 171, .tmp 174, .tmp 182] TK rfl rfl zero38 rfl (evD_of rfl (encs_cons (Expr.encR_eq _) (encs_cons (Expr.encR_eq _) (encs_cons (Expr.encR_eq _) encs_nil)))) rfl (litE_size Expr.encR_cells) rfl) ?_)
 obtain ⟨r64, hr64, hm⟩ := BI hm
 refine DX [0, 1, 2] rfl rfl (RD rfl rfl rfl (compile_and_c hr64)) (DX [0, 1, 2] rfl rfl (x_litE (f := Expr.encR) (xs := ([r53, r58, r64] : List Expr)) [.tmp 154, .tmp 168, .tmp 184] TK rfl rfl zero38 rfl (evD_of rfl (encs_cons (Expr.encR_eq _) (encs_cons (Expr.encR_eq _) (encs_cons (Expr.encR_eq _) encs_nil)))) rfl (litE_size Expr.encR_cells) rfl) ?_)
 obtain ⟨r65, hr65, hm⟩ := BI hm
 refine DX [0, 1, 2] rfl rfl (RD rfl rfl rfl (compile_or_c hr65)) ?_
 refine DT ?_ (by kernel_rfl)
 obtain ⟨r66, hr66, hm⟩ := BI hm
 refine s_callM [0, 1] (fun j => Nat.beq j 1) rfl rfl rfl (by decide) rfl rfl rfl rfl (compile_builder_set_c hr66) rfl rfl rfl ?_
 refine TN (WN [0, 1] rfl rfl (twp_draw follows  ?_))
 iterate 6 (refine DA [0, 1, 2] TK rfl ?_)
 obtain ⟨r67, hr67, hm⟩ := BI hm
 refine DX [0, 1, 2] rfl rfl (RN rfl rfl (SC (.d _) (SC (.d _) (SC (.d _) SN))) (compile_numbering_aux_c hr67)) ?_
 iterate 5 (refine DA [0, 1, 2] TK rfl ?_)
 obtain ⟨r68, hr68, hm⟩ := BI hm
 refine DX [0, 1, 2] rfl rfl (RN rfl rfl (SC (.d _) (SC (.d _) (SC (.d _) SN))) (compile_numbering_aux_c hr68)) ?_
 obtain ⟨r69, hr69, hm⟩ := BI hm
 refine DX [0, 1, 2] rfl rfl (RD rfl rfl rfl (compile_val_c hr69)) ?_
 iterate 2 (refine DA [0, 1, 2] TK rfl ?_)
 obtain ⟨r70, hr70, hm⟩ := BI hm
 refine DX [0, 1, 2] rfl rfl (rd_callH [0, 1] ⟨rfl, rfl, fun _ => rfl⟩ rfl rfl rfl (by decide) rfl (closedH_of rfl) rfl rfl (compile_builder_clears_c hr70)) ?_
 iterate 5 (refine DA [0, 1, 2] TK rfl ?_)
 obtain ⟨r71, hr71, hm⟩ := BI hm
 refine DX [0, 1, 2] rfl rfl (RN rfl rfl (SC (.d _) (SC (.d _) (SC (.d _) SN))) (compile_numbering_aux_c hr71)) ?_
 obtain ⟨r72, hr72, hm⟩ := BI hm
 refine DX [0, 1, 2] rfl rfl (RD rfl rfl rfl (compile_val_c hr72)) ?_
 iterate 5 (refine DA [0, 1, 2] TK rfl ?_)
 obtain ⟨r73, hr73, hm⟩ := BI hm
 refine DX [0, 1, 2] rfl rfl (RN rfl rfl (SC (.d _) (SC (.d _) (SC (.d _) SN))) (compile_numbering_aux_c hr73)) ?_
 obtain ⟨r74, hr74, hm⟩ := BI hm
 refine DX [0, 1, 2] rfl rfl (RD rfl rfl rfl (compile_val_c hr74)) (DX [0, 1, 2] rfl rfl (x_litE (f := Expr.encR) (xs := ([r69, r70, r72, r74] : List Expr)) [.tmp 201, .tmp 204, .tmp 211, .tmp 218] TK rfl rfl zero38 rfl (evD_of rfl (encs_cons (Expr.encR_eq _) (encs_cons (Expr.encR_eq _) (encs_cons (Expr.encR_eq _) (encs_cons (Expr.encR_eq _) encs_nil))))) rfl (litE_size Expr.encR_cells) rfl) ?_)
 obtain ⟨r75, hr75, hm⟩ := BI hm
 refine DX [0, 1, 2] rfl rfl (RD rfl rfl rfl (compile_or_c hr75)) ?_
 refine DT ?_ (by kernel_rfl)
 obtain ⟨r76, hr76, hm⟩ := BI hm
 refine s_callM [0, 1] (fun j => Nat.beq j 1) rfl rfl rfl (by decide) rfl rfl rfl rfl (compile_builder_set_c hr76) rfl rfl rfl ?_
 refine TN ?_
 obtain rfl := OJ hm
 exact ⟨_, [0, 1], res rfl, by decide, (kB rfl), rfl, rfl⟩

theorem compile_builder_state_c {p0 : Builder} {p1 : Int} {r : Builder} (hm : compile_builder_state p0 p1 = some r) : Ret Tryz.prog 33 [.box 81 [.d (.sl 14 (p0.numbering.t.routes.map Route.enc)), .d (.sl 1 (p0.numbering.t.points.map (D.int .i64))), .d (.sl 1 (p0.numbering.t.homes.map (D.int .i64))), .d (.int .i64 p0.numbering.t.sections), .d (.int .i64 p0.numbering.t.signals), .d (.int .i64 p0.numbering.inputs), .d (.sl 1 (p0.numbering.bases.map (D.int .i64))), .d (.int .i64 p0.numbering.extra), .d (.int .i64 p0.numbering.count), .msl 1 6 0 p0.rungs.length], .flat 40 6 (p0.rungs.map Rung.enc)] (fun j => Nat.beq j 1) [.mptr 0 0 0 0, .d (.int .i64 p1)] (.tup []) [.box 81 [.d (.sl 14 (p0.numbering.t.routes.map Route.enc)), .d (.sl 1 (p0.numbering.t.points.map (D.int .i64))), .d (.sl 1 (p0.numbering.t.homes.map (D.int .i64))), .d (.int .i64 p0.numbering.t.sections), .d (.int .i64 p0.numbering.t.signals), .d (.int .i64 p0.numbering.inputs), .d (.sl 1 (p0.numbering.bases.map (D.int .i64))), .d (.int .i64 p0.numbering.extra), .d (.int .i64 p0.numbering.count), .msl 1 6 0 r.rungs.length], .flat 40 6 (r.rungs.map Rung.enc)] := by
 refine ret_body callB33 Tryz.func33 rfl Tryz.ntmps33 rfl rfl (fun wX gX => ?_)
 unfold compile_builder_state at hm
 refine WN [0, 1] rfl rfl (RS ?_)
 iterate 7 (refine SA TK rfl ?_)
 obtain ⟨e1, he1, hm⟩ := GV hm
 refine SX rfl rfl (x_ix TK rfl rfl rfl rfl he1) (SA TK rfl (SA TK rfl (SA TK rfl (TN (WN [0, 1, 4] rfl rfl ?_)))))
 refine w_joinM hm (fun b2 => ([] : Fr)) (fun b2 => ([(0, .box 81 [.d (.sl 14 (p0.numbering.t.routes.map Route.enc)), .d (.sl 1 (p0.numbering.t.points.map (D.int .i64))), .d (.sl 1 (p0.numbering.t.homes.map (D.int .i64))), .d (.int .i64 p0.numbering.t.sections), .d (.int .i64 p0.numbering.t.signals), .d (.int .i64 p0.numbering.inputs), .d (.sl 1 (p0.numbering.bases.map (D.int .i64))), .d (.int .i64 p0.numbering.extra), .d (.int .i64 p0.numbering.count), .msl 1 6 0 b2.length]), (1, .flat 40 6 (b2.map Rung.enc))] : List (Nat × Blk))) [] [0, 1] rfl (fun z3 hm => ?_) (fun b2 hm => ?_)
 ·refine RS ?_
  iterate 5 (refine SA TK rfl ?_)
  obtain ⟨r4, hr4, hm⟩ := BI hm
  refine SX rfl rfl (RN rfl rfl (SC (.d _) (SC (.d _) SN)) (compile_numbering_last_c hr4)) ?_
  obtain ⟨g5, hm⟩ := GI hm
  refine SX rfl rfl (x_ar rfl rfl rfl rfl g5) (SA TK rfl (TN (WN [0, 1, 4, 5] rfl rfl (TB (w_loop hm (fun (k9, b10) => ([(5, .d (.int .i64 k9))] : Fr)) (fun (k9, b10) => ([(0, .box 81 [.d (.sl 14 (p0.numbering.t.routes.map Route.enc)), .d (.sl 1 (p0.numbering.t.points.map (D.int .i64))), .d (.sl 1 (p0.numbering.t.homes.map (D.int .i64))), .d (.int .i64 p0.numbering.t.sections), .d (.int .i64 p0.numbering.t.signals), .d (.int .i64 p0.numbering.inputs), .d (.sl 1 (p0.numbering.bases.map (D.int .i64))), .d (.int .i64 p0.numbering.extra), .d (.int .i64 p0.numbering.count), .msl 1 6 0 b10.length]), (1, .flat 40 6 (b10.map Rung.enc))] : List (Nat × Blk))) [5] [0, 1, 4] [0, 1] rfl (kB rfl) rfl rfl rfl rfl rfl (fun s z11 hm hz11 => ?_))))))
  obtain ⟨k9, b10⟩ := s
  refine WN [0, 1, 4, 5] rfl rfl (TQ (RS (SA TK rfl (SA TK rfl (TN (WN [0, 1, 4, 5, 25] rfl rfl ?_))))))
  refine TC _ rfl (fun h12 => ?_) (fun h12 => ?_)
  ·replace hm := JT h12 hm
   refine TS (WT (WN [0, 1, 4, 5] rfl rfl (TQ (TB (twp_dseq follows  ?_)))))
   iterate 2 (refine DA [0, 1] TK rfl ?_)
   obtain ⟨r13, hr13, hm⟩ := BI hm
   refine DX [0, 1] rfl rfl (rd_callH [0, 1] ⟨rfl, rfl, fun _ => rfl⟩ rfl rfl rfl (by decide) rfl (closedH_of rfl) rfl rfl (compile_builder_status_c hr13)) ?_
   iterate 5 (refine DA [0, 1] TK rfl ?_)
   obtain ⟨r14, hr14, hm⟩ := BI hm
   refine DX [0, 1] rfl rfl (RN rfl rfl (SC (.d _) (SC (.d _) (SC (.d _) SN))) (compile_numbering_aux_c hr14)) ?_
   obtain ⟨r15, hr15, hm⟩ := BI hm
   refine DX [0, 1] rfl rfl (RD rfl rfl rfl (compile_val_c hr15)) ?_
   iterate 2 (refine DA [0, 1] TK rfl ?_)
   obtain ⟨r16, hr16, hm⟩ := BI hm
   refine DX [0, 1] rfl rfl (rd_callH [0, 1] ⟨rfl, rfl, fun _ => rfl⟩ rfl rfl rfl (by decide) rfl (closedH_of rfl) rfl rfl (compile_builder_ask_c hr16)) ?_
   iterate 3 (refine DA [0, 1] TK rfl ?_)
   obtain ⟨e17, he17, hm⟩ := GV hm
   refine DX [0, 1] rfl rfl (x_ix TK rfl rfl rfl rfl he17) (DA [0, 1] TK rfl ?_)
   obtain ⟨r18, hr18, hm⟩ := BI hm
   refine DX [0, 1] rfl rfl (rd_callH [0, 1] ⟨rfl, rfl, fun _ => rfl⟩ rfl rfl rfl (by decide) rfl (closedH_of rfl) rfl rfl (compile_builder_free_c hr18)) ?_
   iterate 3 (refine DA [0, 1] TK rfl ?_)
   obtain ⟨g19, hm⟩ := GI hm
   refine DX [0, 1] rfl rfl (x_ar rfl rfl rfl rfl g19) ?_
   obtain ⟨e20, he20, hm⟩ := GV hm
   refine DX [0, 1] rfl rfl (x_ix TK rfl rfl rfl rfl he20) (DA [0, 1] TK rfl ?_)
   obtain ⟨r21, hr21, hm⟩ := BI hm
   refine DX [0, 1] rfl rfl (rd_callH [0, 1] ⟨rfl, rfl, fun _ => rfl⟩ rfl rfl rfl (by decide) rfl (closedH_of rfl) rfl rfl (compile_builder_free_c hr21)) ?_
   obtain ⟨r22, hr22, hm⟩ := BI hm
   refine DX [0, 1] rfl rfl (RD rfl rfl rfl (compile_not_c hr22)) ?_
   iterate 2 (refine DA [0, 1] TK rfl ?_)
   obtain ⟨r23, hr23, hm⟩ := BI hm
   refine DX [0, 1] rfl rfl (rd_callH [0, 1] ⟨rfl, rfl, fun _ => rfl⟩ rfl rfl rfl (by decide) rfl (closedH_of rfl) rfl rfl (compile_builder_ask_c hr23)) ?_
   refine DX [0, 1] rfl rfl (x_litE (f := Expr.encR) (xs := ([r22, r23] : List Expr)) [.tmp 54, .tmp 57] TK rfl rfl zero38 rfl (evD_of rfl (encs_cons (Expr.encR_eq _) (encs_cons (Expr.encR_eq _) encs_nil))) rfl (litE_size Expr.encR_cells) rfl) ?_
   obtain ⟨r24, hr24, hm⟩ := BI hm
   refine DX [0, 1] rfl rfl (RD rfl rfl rfl (compile_or_c hr24)) ?_
   refine DT ?_ (by kernel_rfl)
   refine s_litO (f := Expr.encR) 2 [.tmp 30, .tmp 37, .tmp 40, .tmp 46, .tmp 59] ([r13, r15, r16, r18, r24] : List Expr) TK rfl rfl rfl zero38 rfl (evD_of rfl (encs_cons (Expr.encR_eq _) (encs_cons (Expr.encR_eq _) (encs_cons (Expr.encR_eq _) (encs_cons (Expr.encR_eq _) (encs_cons (Expr.encR_eq _) encs_nil)))))) rfl (litE_size Expr.encR_cells) rfl (SA TK rfl (TN (WN [0, 1, 4, 5, 6] rfl rfl ?_)))
   refine w_joinM hm (fun b25 => ([(6, .msl 2 3 0 b25.length)] : Fr)) (fun b25 => ([(2, .flat 38 3 (b25.map Expr.encR))] : List (Nat × Blk))) [6] [0, 1, 4, 5] rfl (fun z26 hm => ?_) (fun b25 hm => ?_)
   ·refine RS (SA TK rfl (SA TK rfl (TN (WN [0, 1, 4, 5, 6, 62] rfl rfl ?_))))
    refine TC _ rfl (fun h27 => ?_) (fun h27 => ?_)
    ·replace hm := JT h27 hm
     refine TG ?_
     iterate 4 (refine SA TK rfl ?_)
     obtain ⟨g28, hm⟩ := GI hm
     refine SX rfl rfl (x_ar rfl rfl rfl rfl g28) ?_
     obtain ⟨r29, hr29, hm⟩ := BI hm
     refine SX rfl rfl (rd_callH [0, 1] ⟨rfl, rfl, fun _ => rfl⟩ rfl rfl rfl (by decide) rfl (closedH_of rfl) rfl rfl (compile_builder_rel_c hr29)) ?_
     refine SX rfl rfl (x_litE (f := Expr.encR) (xs := ([r29] : List Expr)) [.tmp 68] TK rfl rfl zero38 rfl (evD_of rfl (encs_cons (Expr.encR_eq _) encs_nil)) rfl (litE_size Expr.encR_cells) rfl) ?_
     obtain ⟨g30, hm⟩ := GI hm
     refine s_app (f := Expr.encR) ([r29] : List Expr) TK rfl rfl zero38 rfl rfl rfl rfl rfl (fun h => absurd (show 2 < 2 from h) (by decide)) rfl src_d g30 rfl rfl ?_
     refine SA TK rfl (TN (WT ?_))
     exact ⟨_, [0, 1, 2], (SJ hm), rfl, (kB rfl), rfl⟩
    ·replace hm := JF h27 hm
     refine TS (WT ?_)
     exact ⟨_, [0, 1, 2], (SJ hm), rfl, (kB rfl), rfl⟩
   ·refine WN [0, 1, 4, 5, 6] rfl rfl ?_
    refine c_frzO 6 2 [0, 1, 4, 5] rfl rfl rfl rfl rfl (by simp) rfl rfl ?_
    refine twp_draw follows  ?_
    iterate 7 (refine DA [0, 1, 2] TK rfl ?_)
    obtain ⟨g31, hm⟩ := GI hm
    refine DX [0, 1, 2] rfl rfl (x_ar rfl rfl rfl rfl g31) ?_
    obtain ⟨r32, hr32, hm⟩ := BI hm
    refine DX [0, 1, 2] rfl rfl (RN rfl rfl (SC (.d _) (SC (.d _) (SC (.d _) SN))) (compile_numbering_part_c hr32)) ?_
    iterate 5 (refine DA [0, 1, 2] TK rfl ?_)
    obtain ⟨r33, hr33, hm⟩ := BI hm
    refine DX [0, 1, 2] rfl rfl (RN rfl rfl (SC (.d _) (SC (.d _) (SC (.d _) SN))) (compile_numbering_aux_c hr33)) ?_
    obtain ⟨r34, hr34, hm⟩ := BI hm
    refine DX [0, 1, 2] rfl rfl (RD rfl rfl rfl (compile_val_c hr34)) ?_
    iterate 5 (refine DA [0, 1, 2] TK rfl ?_)
    obtain ⟨r35, hr35, hm⟩ := BI hm
    refine DX [0, 1, 2] rfl rfl (RN rfl rfl (SC (.d _) (SC (.d _) (SC (.d _) SN))) (compile_numbering_aux_c hr35)) ?_
    obtain ⟨r36, hr36, hm⟩ := BI hm
    refine DX [0, 1, 2] rfl rfl (RD rfl rfl rfl (compile_val_c hr36)) (DX [0, 1, 2] rfl rfl (x_litE (f := Expr.encR) (xs := ([r34, r36] : List Expr)) [.tmp 86, .tmp 93] TK rfl rfl zero38 rfl (evD_of rfl (encs_cons (Expr.encR_eq _) (encs_cons (Expr.encR_eq _) encs_nil))) rfl (litE_size Expr.encR_cells) rfl) ?_)
    obtain ⟨r37, hr37, hm⟩ := BI hm
    refine DX [0, 1, 2] rfl rfl (RD rfl rfl rfl (compile_or_c hr37)) ?_
    iterate 3 (refine DA [0, 1, 2] TK rfl ?_)
    obtain ⟨r38, hr38, hm⟩ := BI hm
    refine DX [0, 1, 2] rfl rfl (rd_callH [0, 1] ⟨rfl, rfl, fun _ => rfl⟩ rfl rfl rfl (by decide) rfl (closedH_of rfl) rfl rfl (compile_builder_rel_c hr38)) ?_
    refine DA [0, 1, 2] TK rfl ?_
    obtain ⟨r39, hr39, hm⟩ := BI hm
    refine DX [0, 1, 2] rfl rfl (RD rfl rfl rfl (compile_and_c hr39)) (DX [0, 1, 2] rfl rfl (x_litE (f := Expr.encR) (xs := ([r38, r39] : List Expr)) [.tmp 99, .tmp 101] TK rfl rfl zero38 rfl (evD_of rfl (encs_cons (Expr.encR_eq _) (encs_cons (Expr.encR_eq _) encs_nil))) rfl (litE_size Expr.encR_cells) rfl) ?_)
    obtain ⟨r40, hr40, hm⟩ := BI hm
    refine DX [0, 1, 2] rfl rfl (RD rfl rfl rfl (compile_or_c hr40)) (DX [0, 1, 2] rfl rfl (x_litE (f := Expr.encR) (xs := ([r37, r40] : List Expr)) [.tmp 95, .tmp 103] TK rfl rfl zero38 rfl (evD_of rfl (encs_cons (Expr.encR_eq _) (encs_cons (Expr.encR_eq _) encs_nil))) rfl (litE_size Expr.encR_cells) rfl) ?_)
    obtain ⟨r41, hr41, hm⟩ := BI hm
    refine DX [0, 1, 2] rfl rfl (RD rfl rfl rfl (compile_and_c hr41)) ?_
    refine DT ?_ (by kernel_rfl)
    obtain ⟨r42, hr42, hm⟩ := BI hm
    refine s_callM [0, 1] (fun j => Nat.beq j 1) rfl rfl rfl (by decide) rfl rfl rfl rfl (compile_builder_set_c hr42) rfl rfl rfl ?_
    refine TN (WK (WT (WN [0, 1, 4, 5] rfl rfl (TG (SA TK rfl ?_)))))
    obtain ⟨g43, hm⟩ := GI hm
    refine SX rfl rfl (x_ar rfl rfl rfl rfl g43) (SA TK rfl (TN (WT ?_)))
    exact ⟨_, [0, 1], (SJ hm), rfl, (kB rfl), rfl⟩
  ·replace hm := JF h12 hm
   refine twp_exit (WX ?_)
   obtain ⟨v44, hm, hz⟩ := II hm
   rw [hz11 _ hz] at hm
   refine WX (WH (WT ?_))
   exact ⟨_, [0, 1], (SJ hm), rfl, (kB rfl), rfl⟩
 ·refine WN [0, 1] rfl rfl (RS ?_)
  iterate 6 (refine SA TK rfl ?_)
  obtain ⟨r45, hr45, hm⟩ := BI hm
  refine SX rfl rfl (RN rfl rfl (SC (.d _) (SC (.d _) (SC (.d _) SN))) (compile_numbering_part_c hr45)) (SA TK rfl (SA TK rfl ?_))
  obtain ⟨r46, hr46, hm⟩ := BI hm
  refine SX rfl rfl (rd_callH [0, 1] ⟨rfl, rfl, fun _ => rfl⟩ rfl rfl rfl (by decide) rfl (closedH_of rfl) rfl rfl (compile_builder_clears_c hr46)) ?_
  obtain ⟨r47, hr47, hm⟩ := BI hm
  refine s_callM [0, 1] (fun j => Nat.beq j 1) rfl rfl rfl (by decide) rfl rfl rfl rfl (compile_builder_set_c hr47) rfl rfl rfl ?_
  refine TN (WN [0, 1] rfl rfl (twp_dseq follows  ?_))
  iterate 6 (refine DA [0, 1] TK rfl ?_)
  obtain ⟨r48, hr48, hm⟩ := BI hm
  refine DX [0, 1] rfl rfl (RN rfl rfl (SC (.d _) (SC (.d _) (SC (.d _) SN))) (compile_numbering_part_c hr48)) ?_
  iterate 5 (refine DA [0, 1] TK rfl ?_)
  obtain ⟨r49, hr49, hm⟩ := BI hm
  refine DX [0, 1] rfl rfl (RN rfl rfl (SC (.d _) (SC (.d _) (SC (.d _) SN))) (compile_numbering_aux_c hr49)) ?_
  obtain ⟨r50, hr50, hm⟩ := BI hm
  refine DX [0, 1] rfl rfl (RD rfl rfl rfl (compile_val_c hr50)) ?_
  refine DT ?_ (by kernel_rfl)
  obtain ⟨r51, hr51, hm⟩ := BI hm
  refine s_callM [0, 1] (fun j => Nat.beq j 1) rfl rfl rfl (by decide) rfl rfl rfl rfl (compile_builder_set_c hr51) rfl rfl rfl ?_
  refine TN (WN [0, 1] rfl rfl (twp_draw follows  ?_))
  iterate 6 (refine DA [0, 1] TK rfl ?_)
  obtain ⟨r52, hr52, hm⟩ := BI hm
  refine DX [0, 1] rfl rfl (RN rfl rfl (SC (.d _) (SC (.d _) (SC (.d _) SN))) (compile_numbering_part_c hr52)) ?_
  iterate 5 (refine DA [0, 1] TK rfl ?_)
  obtain ⟨r53, hr53, hm⟩ := BI hm
  refine DX [0, 1] rfl rfl (RN rfl rfl (SC (.d _) (SC (.d _) (SC (.d _) SN))) (compile_numbering_aux_c hr53)) ?_
  obtain ⟨r54, hr54, hm⟩ := BI hm
  refine DX [0, 1] rfl rfl (RD rfl rfl rfl (compile_val_c hr54)) ?_
  refine DT ?_ (by kernel_rfl)
  obtain ⟨r55, hr55, hm⟩ := BI hm
  refine s_callM [0, 1] (fun j => Nat.beq j 1) rfl rfl rfl (by decide) rfl rfl rfl rfl (compile_builder_set_c hr55) rfl rfl rfl ?_
  refine TN ?_
  obtain rfl := OJ hm
  exact ⟨_, [0, 1], res rfl, by decide, (kB rfl), rfl, rfl⟩

theorem compile_builder_shared_c1_c {p0 : Int} {p1 : Builder} {p2 : Int} {p3 : Bool} {p4 : (List Int)} {r0 : Bool} {r1 : (List Int)} (hm : compile_builder_shared_c1 p0 p1 p2 p3 p4 = some (r0, r1)) : Ret Tryz.prog 170 [.box 127 [.mptr 1 0 0 0], .box 81 [.d (.sl 14 (p1.numbering.t.routes.map Route.enc)), .d (.sl 1 (p1.numbering.t.points.map (D.int .i64))), .d (.sl 1 (p1.numbering.t.homes.map (D.int .i64))), .d (.int .i64 p1.numbering.t.sections), .d (.int .i64 p1.numbering.t.signals), .d (.int .i64 p1.numbering.inputs), .d (.sl 1 (p1.numbering.bases.map (D.int .i64))), .d (.int .i64 p1.numbering.extra), .d (.int .i64 p1.numbering.count), .msl 2 6 0 p1.rungs.length], .flat 40 6 (p1.rungs.map Rung.enc), .box 3 [.d (.int .i64 p2)], .box 4 [.d (.bool (p3))], .box 23 [.msl 6 1 0 p4.length], .flat 3 1 (p4.map (D.int .i64))] (fun j => Nat.beq j 6) [.d (.int .i64 p0), .mptr 0 0 0 0, .mptr 3 0 0 0, .mptr 4 0 0 0, .mptr 5 0 0 0] (.tup []) [.box 127 [.mptr 1 0 0 0], .box 81 [.d (.sl 14 (p1.numbering.t.routes.map Route.enc)), .d (.sl 1 (p1.numbering.t.points.map (D.int .i64))), .d (.sl 1 (p1.numbering.t.homes.map (D.int .i64))), .d (.int .i64 p1.numbering.t.sections), .d (.int .i64 p1.numbering.t.signals), .d (.int .i64 p1.numbering.inputs), .d (.sl 1 (p1.numbering.bases.map (D.int .i64))), .d (.int .i64 p1.numbering.extra), .d (.int .i64 p1.numbering.count), .msl 2 6 0 p1.rungs.length], .flat 40 6 (p1.rungs.map Rung.enc), .box 3 [.d (.int .i64 p2)], .box 4 [.d (.bool (r0))], .box 23 [.msl 6 1 0 r1.length], .flat 3 1 (r1.map (D.int .i64))] := by
 refine ret_body callB170 Tryz.func170 rfl Tryz.ntmps170 rfl rfl (fun wX gX => ?_)
 unfold compile_builder_shared_c1 at hm
 refine WN [0, 1, 2, 3, 4] rfl rfl ?_
 refine w_joinM hm (fun x1 => ([(17, .d (.bool (x1)))] : Fr)) (fun x1 => ([] : List (Nat × Blk))) [17] [0, 3, 4] rfl (fun z2 hm => ?_) (fun x1 hm => ?_)
 ·refine twp_draw follows  ?_
  iterate 2 (refine DA [0, 1, 2, 3, 4, 5, 6] TK rfl ?_)
  refine d_b [0, 1, 2, 3, 4, 5, 6] TK rfl (fun q3 hq3 => ?_)
  cases q3
  ·replace hm := JF hq3 hm
   iterate 6 (refine DA [0, 1, 2, 3, 4, 5, 6] TK rfl ?_)
   obtain ⟨r4, hr4, hm⟩ := BI hm
   refine DX [0, 1, 2, 3, 4, 5, 6] rfl rfl (RN rfl rfl (SC (.d _) (SC (.d _) SN)) (compile_numbering_last_c hr4)) ?_
   iterate 2 (refine DA [0, 1, 2, 3, 4, 5, 6] TK rfl ?_)
   refine DT ?_ (by kernel_rfl)
   refine TN (WT ?_)
   exact ⟨_, [0, 1, 2, 3, 4, 5, 6], (SJ hm), rfl, (kB rfl), rfl⟩
  ·replace hm := JT hq3 hm
   iterate 9 (refine DA [0, 1, 2, 3, 4, 5, 6] TK rfl ?_)
   refine DT ?_ (by kernel_rfl)
   refine TN (WT ?_)
   exact ⟨_, [0, 1, 2, 3, 4, 5, 6], (SJ hm), rfl, (kB rfl), rfl⟩
 ·refine WN [0, 3, 4, 17] rfl rfl ?_
  refine TC _ rfl (fun h5 => ?_) (fun h5 => ?_)
  ·replace hm := JA h5 hm
   refine TG (SA TK rfl (TN ?_))
   obtain ⟨rfl, rfl⟩ := Prod.mk.inj (Option.some.inj hm)
   exact ⟨_, [0, 1, 2, 3, 4, 5, 6], res rfl, by decide, (kB rfl), rfl, rfl⟩
  ·replace hm := JB h5 hm
   refine RS (SA TK rfl (SA TK rfl ?_))
   obtain ⟨r6, hr6, hm⟩ := BI hm
   refine SX rfl rfl (RN rfl rfl (SC (snap_map rfl) (SC (.d _) SN)) (slices_Contains_int_c hr6)) (SA TK rfl (TN (WN [0, 4, 21] rfl rfl ?_)))
   refine TC _ rfl (fun h7 => ?_) (fun h7 => ?_)
   ·replace hm := JA h7 hm
    refine TG (SA TK rfl (SA TK rfl (SX rfl rfl (x_lit [.tmp 23] TK rfl rfl zero3 rfl rfl rfl rfl rfl) ?_)))
    obtain ⟨g8, hm⟩ := GI hm
    refine s_app (f := (D.int .i64)) ([p0] : List Int) TK rfl rfl zero3 rfl rfl rfl rfl rfl (fun _ => rfl) rfl src_d g8 rfl rfl (SA TK rfl (TN ?_))
    obtain ⟨rfl, rfl⟩ := Prod.mk.inj (Option.some.inj hm)
    exact ⟨_, [0, 1, 2, 3, 4, 5, 6], res rfl, by decide, (kB rfl), rfl, rfl⟩
   ·replace hm := JB h7 hm
    refine TS ?_
    obtain ⟨rfl, rfl⟩ := Prod.mk.inj (Option.some.inj hm)
    exact ⟨_, [0, 1, 2, 3, 4, 5, 6], res rfl, by decide, (kB rfl), rfl, rfl⟩

theorem compile_builder_shared_c {p0 : Builder} {p1 : Int} {p2 : Int} {r0 : Bool} {r1 : (List Int)} (hm : compile_builder_shared p0 p1 p2 = some (r0, r1)) : Ret Tryz.prog 144 [.box 81 [.d (.sl 14 (p0.numbering.t.routes.map Route.enc)), .d (.sl 1 (p0.numbering.t.points.map (D.int .i64))), .d (.sl 1 (p0.numbering.t.homes.map (D.int .i64))), .d (.int .i64 p0.numbering.t.sections), .d (.int .i64 p0.numbering.t.signals), .d (.int .i64 p0.numbering.inputs), .d (.sl 1 (p0.numbering.bases.map (D.int .i64))), .d (.int .i64 p0.numbering.extra), .d (.int .i64 p0.numbering.count), .msl 1 6 0 p0.rungs.length], .flat 40 6 (p0.rungs.map Rung.enc)] (fun _ => false) [.mptr 0 0 0 0, .d (.int .i64 p1), .d (.int .i64 p2)] (.tup [.d (.bool (r0)), .d (.sl 1 (r1.map (D.int .i64)))]) [.box 81 [.d (.sl 14 (p0.numbering.t.routes.map Route.enc)), .d (.sl 1 (p0.numbering.t.points.map (D.int .i64))), .d (.sl 1 (p0.numbering.t.homes.map (D.int .i64))), .d (.int .i64 p0.numbering.t.sections), .d (.int .i64 p0.numbering.t.signals), .d (.int .i64 p0.numbering.inputs), .d (.sl 1 (p0.numbering.bases.map (D.int .i64))), .d (.int .i64 p0.numbering.extra), .d (.int .i64 p0.numbering.count), .msl 1 6 0 p0.rungs.length], .flat 40 6 (p0.rungs.map Rung.enc)] := by
 refine ret_body callB144 Tryz.func144 rfl Tryz.ntmps144 rfl rfl (fun wX gX => ?_)
 unfold compile_builder_shared at hm
 refine WN [0, 1, 2] rfl rfl (RS (s_bx 2 rfl rfl rfl (s_bx 3 rfl rfl rfl (SA TK rfl (SA TK rfl (TN (WN [1, 3, 5] rfl rfl (twp_hole (twp_hole ?_)))))))))
 refine twp_dseq follows  (DA [2] TK rfl ?_)
 iterate 4 (refine DA [] TK rfl ?_)
 refine DA [0] TK rfl (DA [] TK rfl ?_)
 obtain ⟨e1, he1, hm⟩ := GV hm
 refine DX [] rfl rfl (x_ix TK rfl rfl rfl rfl he1) (DA [] TK rfl (DA [2] TK rfl ?_))
 iterate 4 (refine DA [] TK rfl ?_)
 refine DA [0] TK rfl (DA [3] TK rfl ?_)
 obtain ⟨e2, he2, hm⟩ := GV hm
 refine DX [] rfl rfl (x_ix TK rfl rfl rfl rfl he2) (DA [] TK rfl (d_wr [4] _ (.mptr 4 0 0 0) rfl (onE_A rfl) rfl (w_alloc rfl rfl zero74 rfl rfl) (d_wr [5] _ (.mptr 5 0 0 0) rfl (onE_A rfl) rfl (w_alloc rfl rfl zero74 rfl rfl) (d_st 1000004 [4] [(4, .box 74 [.d (.str e1.name), .d (.int .i64 e1.entry), .d (.int .i64 e1.exit), .d (.sl 3 (e1.path.map Step.enc)), .d (.sl 2 (e1.points.map Setting.enc)), .d (.sl 1 (e1.sections.map (D.int .i64))), .d (.int .i64 e1.approach), .d (.int .i64 e1.length), .d (.sl 3 (e1.over.map Step.enc)), .d (.sl 2 (e1.overPoints.map Setting.enc)), .d (.sl 1 (e1.overSections.map (D.int .i64))), .d (.sl 2 (e1.flank.map Setting.enc)), .d (.sl 1 (e1.guards.map (D.int .i64))), .d (.sl 2 (e1.gaps.map End.enc))])] (onE_A rfl) rfl (w_stoB TK rfl rfl rfl rfl rfl rfl rfl rfl rfl rfl) ?_))))
 refine DT ?_ (by kernel_rfl)
 refine SA TK rfl (TN (WN [3, 5, 8, 9] rfl rfl (twp_dseq follows  ?_)))
 iterate 2 (refine DA [0, 1, 2, 3, 4, 5] TK rfl ?_)
 obtain ⟨r3, hr3, hm⟩ := BI hm
 refine DX [0, 1, 2, 3, 4, 5] rfl rfl (RN rfl rfl (SC (.d _) (SC (.d _) SN)) (conflict_Follows_c hr3)) ?_
 iterate 2 (refine DA [0, 1, 2, 3, 4, 5] TK rfl ?_)
 obtain ⟨r4, hr4, hm⟩ := BI hm
 refine DX [0, 1, 2, 3, 4, 5] rfl rfl (RN rfl rfl (SC (.d _) (SC (.d _) SN)) (conflict_Follows_c hr4)) ?_
 refine DT ?_ (by kernel_rfl)
 refine SA TK rfl (SA TK rfl (TN (WN [3, 5, 8, 9, 10, 11] rfl rfl (RS (s_al 6 rfl rfl zero4 rfl (SA TK rfl (TN (WN [3, 5, 8, 9, 10, 11, 12] rfl rfl (RS ?_)))))))))
 refine s_al 7 rfl rfl zero23 rfl (s_upB (f := (D.int .i64)) 7 0 8 3 1 rfl rfl rfl (TN (WN [3, 5, 8, 9, 10, 11, 12, 13] rfl rfl (RS (SX rfl rfl (rd_makeFunc rfl) (SA TK rfl (TN (WN [3, 8, 9, 10, 11, 12, 13, 14] rfl rfl ?_))))))))
 refine w_joinM hm (fun (c5, b6) => ([] : Fr)) (fun (c5, b6) => ([(6, .box 4 [.d (.bool (c5))]), (7, .box 23 [.msl 8 1 0 b6.length]), (8, .flat 3 1 (b6.map (D.int .i64)))] : List (Nat × Blk))) [] [3, 8, 9, 10, 11, 12, 13, 14] rfl (fun z7 hm => ?_) (fun j hm => ?_)
 ·refine RS (SA TK rfl (SA TK rfl (SX rfl rfl (x_len TK rfl rfl rfl) (SA TK rfl (TN (WN [3, 8, 9, 10, 11, 12, 13, 14, 50, 51, 52] rfl rfl (TB (w_loop hm (fun (x12, c13, b14) => ([(52, .d (.int .i64 x12))] : Fr)) (fun (x12, c13, b14) => ([(6, .box 4 [.d (.bool (c13))]), (7, .box 23 [.msl 8 1 0 b14.length]), (8, .flat 3 1 (b14.map (D.int .i64)))] : List (Nat × Blk))) [52] [3, 8, 9, 10, 11, 12, 13, 14, 50, 51] [0, 1, 2, 3, 4, 5, 6, 7, 8] rfl (kB rfl) rfl rfl rfl rfl rfl (fun s z15 hm hz15 => ?_)))))))))
  obtain ⟨x12, c13, b14⟩ := s
  refine WN [3, 8, 9, 10, 11, 12, 13, 14, 50, 51, 52] rfl rfl (RS (SA TK rfl (TN (WN [3, 8, 9, 10, 11, 12, 13, 14, 50, 51, 52, 53] rfl rfl (TQ ?_)))))
  refine TC _ rfl (fun h16 => ?_) (fun h16 => ?_)
  ·replace hm := JT h16 hm
   refine TS (WT (WN [3, 8, 9, 10, 11, 12, 13, 14, 50, 51, 52] rfl rfl (TQ (TB (RS ?_)))))
   obtain ⟨e17, he17, hm⟩ := GV hm
   refine SX rfl rfl (x_ix TK rfl rfl rfl rfl he17) (SA TK rfl (SA TK rfl (TN (WN [3, 8, 9, 10, 11, 12, 13, 14, 16, 50, 51, 52] rfl rfl ?_))))
   refine w_joinM hm (fun (c18, b19) => ([] : Fr)) (fun (c18, b19) => ([(6, .box 4 [.d (.bool (c18))]), (7, .box 23 [.msl 8 1 0 b19.length]), (8, .flat 3 1 (b19.map (D.int .i64)))] : List (Nat × Blk))) [] [3, 8, 9, 10, 11, 12, 13, 14, 16, 50, 51, 52] rfl (fun z20 hm => ?_) (fun j hm => ?_)
   ·refine RS (SA TK rfl (SA TK rfl (SA TK rfl ?_)))
    obtain ⟨r21, hr21, hm⟩ := BI hm
    refine SX rfl rfl (RN rfl rfl (SC (.d _) (SC (.d _) SN)) (slices_Index_int_c hr21)) (SA TK rfl (TN (WN [3, 8, 9, 10, 11, 12, 13, 14, 16, 17, 50, 51, 52] rfl rfl (RS (SA TK rfl (SA TK rfl (TN (WN [3, 8, 9, 10, 11, 12, 13, 14, 16, 17, 50, 51, 52, 61] rfl rfl ?_))))))))
    refine TC _ rfl (fun h22 => ?_) (fun h22 => ?_)
    ·replace hm := JT h22 hm
     refine TG (SA TK rfl (SA TK rfl ?_))
     obtain ⟨r23, hr23, hm⟩ := BI hm
     obtain ⟨r24, r25⟩ := r23
     refine s_callM [2, 0, 1, 3, 6, 7, 8] (fun j => Nat.beq j 6) rfl rfl rfl (by decide) rfl rfl rfl rfl (compile_builder_shared_c1_c hr23) rfl rfl rfl ?_
     refine TN (WT ?_)
     exact ⟨_, [0, 1, 2, 3, 4, 5, 6, 7, 8], (SJ hm), rfl, (kB rfl), rfl⟩
    ·replace hm := JF h22 hm
     refine TS (WT ?_)
     exact ⟨_, [0, 1, 2, 3, 4, 5, 6, 7, 8], (SJ hm), rfl, (kB rfl), rfl⟩
   ·obtain ⟨c18, b19⟩ := j
    refine WN [3, 8, 9, 10, 11, 12, 13, 14, 16, 50, 51, 52] rfl rfl (TG (SA TK rfl (SB TK rfl (fun q26 hq26 => ?_))))
    cases q26
    ·replace hm := JB hq26 hm
     refine SA TK rfl (SA TK rfl (SA TK rfl ?_))
     obtain ⟨r27, hr27, hm⟩ := BI hm
     refine SX rfl rfl (RN rfl rfl (SC (.d _) (SC (.d _) SN)) (slices_Contains_int_c hr27)) (SB TK rfl (fun q28 hq28 => ?_))
     cases q28
     ·replace hm := JB hq28 hm
      iterate 5 (refine SA TK rfl ?_)
      refine TN (WK (WT (WN [3, 8, 9, 10, 11, 12, 13, 14, 50, 51, 52] rfl rfl (TG ?_))))
      obtain ⟨g29, hm⟩ := GI hm
      refine SX rfl rfl (x_ar rfl rfl rfl rfl g29) (SA TK rfl (TN (WT ?_)))
      exact ⟨_, [0, 1, 2, 3, 4, 5, 6, 7, 8], (SJ hm), rfl, (kB rfl), rfl⟩
     ·replace hm := JA hq28 hm
      iterate 5 (refine SA TK rfl ?_)
      refine TN (WK (WT (WN [3, 8, 9, 10, 11, 12, 13, 14, 50, 51, 52] rfl rfl (TG ?_))))
      obtain ⟨g30, hm⟩ := GI hm
      refine SX rfl rfl (x_ar rfl rfl rfl rfl g30) (SA TK rfl (TN (WT ?_)))
      exact ⟨_, [0, 1, 2, 3, 4, 5, 6, 7, 8], (SJ hm), rfl, (kB rfl), rfl⟩
    ·replace hm := JA hq26 hm
     iterate 10 (refine SA TK rfl ?_)
     refine TN (WK (WT (WN [3, 8, 9, 10, 11, 12, 13, 14, 50, 51, 52] rfl rfl (TG ?_))))
     obtain ⟨g31, hm⟩ := GI hm
     refine SX rfl rfl (x_ar rfl rfl rfl rfl g31) (SA TK rfl (TN (WT ?_)))
     exact ⟨_, [0, 1, 2, 3, 4, 5, 6, 7, 8], (SJ hm), rfl, (kB rfl), rfl⟩
  ·replace hm := JF h16 hm
   refine twp_exit (WX ?_)
   obtain ⟨v32, hm, hz⟩ := II hm
   rw [hz15 _ hz] at hm
   refine WX (WH (WT ?_))
   exact ⟨_, [0, 1, 2, 3, 4, 5, 6, 7, 8], (SJ hm), rfl, (kB rfl), rfl⟩
 ·obtain ⟨c5, b6⟩ := j
  refine WN [3, 8, 9, 10, 11, 12, 13, 14] rfl rfl ?_
  refine w_joinM hm (fun (c33, b34) => ([] : Fr)) (fun (c33, b34) => ([(6, .box 4 [.d (.bool (c33))]), (7, .box 23 [.msl 8 1 0 b34.length]), (8, .flat 3 1 (b34.map (D.int .i64)))] : List (Nat × Blk))) [] [3, 8, 9, 12, 13, 14] rfl (fun z35 hm => ?_) (fun j hm => ?_)
  ·refine RS (SA TK rfl (SA TK rfl (SX rfl rfl (x_len TK rfl rfl rfl) (SA TK rfl (TN (WN [3, 8, 9, 10, 11, 12, 13, 14, 78, 79, 80] rfl rfl (TB (w_loop hm (fun (x40, c41, b42) => ([(80, .d (.int .i64 x40))] : Fr)) (fun (x40, c41, b42) => ([(6, .box 4 [.d (.bool (c41))]), (7, .box 23 [.msl 8 1 0 b42.length]), (8, .flat 3 1 (b42.map (D.int .i64)))] : List (Nat × Blk))) [80] [3, 8, 9, 10, 11, 12, 13, 14, 78, 79] [0, 1, 2, 3, 4, 5, 6, 7, 8] rfl (kB rfl) rfl rfl rfl rfl rfl (fun s z43 hm hz43 => ?_)))))))))
   obtain ⟨x40, c41, b42⟩ := s
   refine WN [3, 8, 9, 10, 11, 12, 13, 14, 78, 79, 80] rfl rfl (RS (SA TK rfl (TN (WN [3, 8, 9, 10, 11, 12, 13, 14, 78, 79, 80, 81] rfl rfl (TQ ?_)))))
   refine TC _ rfl (fun h44 => ?_) (fun h44 => ?_)
   ·replace hm := JT h44 hm
    refine TS (WT (WN [3, 8, 9, 10, 11, 12, 13, 14, 78, 79, 80] rfl rfl (TQ (TB (RS ?_)))))
    obtain ⟨e45, he45, hm⟩ := GV hm
    refine SX rfl rfl (x_ix TK rfl rfl rfl rfl he45) (SA TK rfl (SA TK rfl (TN (WN [3, 8, 9, 10, 11, 12, 13, 14, 19, 78, 79, 80] rfl rfl ?_))))
    refine w_joinM hm (fun (c46, b47) => ([] : Fr)) (fun (c46, b47) => ([(6, .box 4 [.d (.bool (c46))]), (7, .box 23 [.msl 8 1 0 b47.length]), (8, .flat 3 1 (b47.map (D.int .i64)))] : List (Nat × Blk))) [] [3, 8, 9, 10, 11, 12, 13, 14, 19, 78, 79, 80] rfl (fun z48 hm => ?_) (fun j hm => ?_)
    ·refine RS (SA TK rfl (SA TK rfl (SA TK rfl ?_)))
     obtain ⟨r49, hr49, hm⟩ := BI hm
     refine SX rfl rfl (RN rfl rfl (SC (.d _) (SC (.d _) SN)) (slices_Index_int_c hr49)) (SA TK rfl (TN (WN [3, 8, 9, 10, 11, 12, 13, 14, 19, 20, 78, 79, 80] rfl rfl ?_)))
     refine w_cut [(93, .d (.bool (((decide ((0 : Int) ≤ r49)) && (!(r4))))))] [93] [3, 8, 9, 10, 11, 12, 13, 14, 19, 20, 78, 79, 80] rfl ?_ ?_
     ·refine TG (SA TK rfl (SA TK rfl (SB TK rfl (fun q50 hq50 => ?_))))
      cases q50
      ·refine SA TK rfl (SA TK rfl (SA TK rfl (TN (WT ?_))))
       exact ⟨[0, 1, 2, 3, 4, 5, 6, 7, 8], rfl, (kB rfl), st_eq (fr_cons (av_bool (by simp [hq50])) rfl) rfl⟩
      ·refine SA TK rfl (SA TK rfl (SA TK rfl (TN (WT ?_))))
       exact ⟨[0, 1, 2, 3, 4, 5, 6, 7, 8], rfl, (kB rfl), st_eq (fr_cons (av_bool (by simp [hq50])) rfl) rfl⟩
     ·refine WN [3, 8, 9, 10, 11, 12, 13, 14, 19, 20, 78, 79, 80, 93] rfl rfl ?_
      refine TC _ rfl (fun h51 => ?_) (fun h51 => ?_)
      ·replace hm := JA h51 hm
       refine TG (SA TK rfl (SA TK rfl ?_))
       obtain ⟨r52, hr52, hm⟩ := BI hm
       obtain ⟨r53, r54⟩ := r52
       refine s_callM [2, 0, 1, 3, 6, 7, 8] (fun j => Nat.beq j 6) rfl rfl rfl (by decide) rfl rfl rfl rfl (compile_builder_shared_c1_c hr52) rfl rfl rfl ?_
       refine TN (WT ?_)
       exact ⟨_, [0, 1, 2, 3, 4, 5, 6, 7, 8], (SJ hm), rfl, (kB rfl), rfl⟩
      ·replace hm := JB h51 hm
       refine TS (WT ?_)
       exact ⟨_, [0, 1, 2, 3, 4, 5, 6, 7, 8], (SJ hm), rfl, (kB rfl), rfl⟩
    ·obtain ⟨c46, b47⟩ := j
     refine WN [3, 8, 9, 10, 11, 12, 13, 14, 19, 78, 79, 80] rfl rfl (TG (SA TK rfl (SB TK rfl (fun q55 hq55 => ?_))))
     cases q55
     ·replace hm := JB hq55 hm
      refine SA TK rfl (SA TK rfl (SA TK rfl ?_))
      obtain ⟨r56, hr56, hm⟩ := BI hm
      refine SX rfl rfl (RN rfl rfl (SC (.d _) (SC (.d _) SN)) (slices_Contains_int_c hr56)) (SB TK rfl (fun q57 hq57 => ?_))
      cases q57
      ·replace hm := JB hq57 hm
       iterate 9 (refine SA TK rfl ?_)
       refine TN (WK (WT (WN [3, 8, 9, 10, 11, 12, 13, 14, 78, 79, 80] rfl rfl (TG ?_))))
       obtain ⟨g58, hm⟩ := GI hm
       refine SX rfl rfl (x_ar rfl rfl rfl rfl g58) (SA TK rfl (TN (WT ?_)))
       exact ⟨_, [0, 1, 2, 3, 4, 5, 6, 7, 8], (SJ hm), rfl, (kB rfl), rfl⟩
      ·replace hm := JA hq57 hm
       refine SA TK rfl (SA TK rfl (SA TK rfl (SB TK rfl (fun q59 hq59 => ?_))))
       cases q59
       ·replace hm := JB hq59 hm
        iterate 5 (refine SA TK rfl ?_)
        refine TN (WK (WT (WN [3, 8, 9, 10, 11, 12, 13, 14, 78, 79, 80] rfl rfl (TG ?_))))
        obtain ⟨g60, hm⟩ := GI hm
        refine SX rfl rfl (x_ar rfl rfl rfl rfl g60) (SA TK rfl (TN (WT ?_)))
        exact ⟨_, [0, 1, 2, 3, 4, 5, 6, 7, 8], (SJ hm), rfl, (kB rfl), rfl⟩
       ·replace hm := JA hq59 hm
        iterate 5 (refine SA TK rfl ?_)
        refine TN (WK (WT (WN [3, 8, 9, 10, 11, 12, 13, 14, 78, 79, 80] rfl rfl (TG ?_))))
        obtain ⟨g61, hm⟩ := GI hm
        refine SX rfl rfl (x_ar rfl rfl rfl rfl g61) (SA TK rfl (TN (WT ?_)))
        exact ⟨_, [0, 1, 2, 3, 4, 5, 6, 7, 8], (SJ hm), rfl, (kB rfl), rfl⟩
     ·replace hm := JA hq55 hm
      iterate 14 (refine SA TK rfl ?_)
      refine TN (WK (WT (WN [3, 8, 9, 10, 11, 12, 13, 14, 78, 79, 80] rfl rfl (TG ?_))))
      obtain ⟨g62, hm⟩ := GI hm
      refine SX rfl rfl (x_ar rfl rfl rfl rfl g62) (SA TK rfl (TN (WT ?_)))
      exact ⟨_, [0, 1, 2, 3, 4, 5, 6, 7, 8], (SJ hm), rfl, (kB rfl), rfl⟩
   ·replace hm := JF h44 hm
    refine twp_exit (WX ?_)
    obtain ⟨v63, hm, hz⟩ := II hm
    rw [hz43 _ hz] at hm
    refine WX (WH (WT ?_))
    exact ⟨_, [0, 1, 2, 3, 4, 5, 6, 7, 8], (SJ hm), rfl, (kB rfl), rfl⟩
  ·obtain ⟨c33, b34⟩ := j
   refine WN [3, 8, 9, 12, 13, 14] rfl rfl ?_
   refine w_joinM hm (fun (c64, b65) => ([] : Fr)) (fun (c64, b65) => ([(6, .box 4 [.d (.bool (c64))]), (7, .box 23 [.msl 8 1 0 b65.length]), (8, .flat 3 1 (b65.map (D.int .i64)))] : List (Nat × Blk))) [] [12, 13] rfl (fun z66 hm => ?_) (fun j hm => ?_)
   ·refine RS (SA TK rfl ?_)
    obtain ⟨r67, hr67, hm⟩ := BI hm
    refine SX rfl rfl (RD rfl rfl rfl (table_Settings_c hr67)) (SX rfl rfl (x_len TK rfl rfl rfl) (SA TK rfl (TN (WN [3, 9, 12, 13, 14, 114, 115, 116] rfl rfl (TB (w_loop hm (fun (x72, c73, b74) => ([(116, .d (.int .i64 x72))] : Fr)) (fun (x72, c73, b74) => ([(6, .box 4 [.d (.bool (c73))]), (7, .box 23 [.msl 8 1 0 b74.length]), (8, .flat 3 1 (b74.map (D.int .i64)))] : List (Nat × Blk))) [116] [3, 9, 12, 13, 14, 114, 115] [0, 1, 2, 3, 4, 5, 6, 7, 8] rfl (kB rfl) rfl rfl rfl rfl rfl (fun s z75 hm hz75 => ?_)))))))
    obtain ⟨x72, c73, b74⟩ := s
    refine WN [3, 9, 12, 13, 14, 114, 115, 116] rfl rfl (RS (SA TK rfl (TN (WN [3, 9, 12, 13, 14, 114, 115, 116, 117] rfl rfl (TQ ?_)))))
    refine TC _ rfl (fun h76 => ?_) (fun h76 => ?_)
    ·replace hm := JT h76 hm
     refine TS (WT (WN [3, 9, 12, 13, 14, 114, 115, 116] rfl rfl (TQ (TB (RS ?_)))))
     obtain ⟨e77, he77, hm⟩ := GV hm
     refine SX rfl rfl (x_ix TK rfl rfl rfl rfl he77) (SA TK rfl (s_al 9 rfl rfl zero133 rfl (SA TK rfl (TN (WN [3, 9, 12, 13, 14, 22, 114, 115, 116] rfl rfl (RS ?_))))))
     iterate 4 (refine SA TK rfl ?_)
     obtain ⟨g78, hm⟩ := GI hm
     refine SX rfl rfl (x_ar rfl rfl rfl rfl g78) (SX rfl rfl (build_d rfl plc133 zero133 rfl rfl rfl rfl) (s_al 10 rfl rfl zero133 rfl (SA TK rfl (TN (WN [3, 9, 12, 13, 14, 22, 23, 114, 115, 116] rfl rfl ?_)))))
     refine w_joinM hm (fun x79 => ([(135, .d (.bool (x79)))] : Fr)) (fun x79 => ([] : List (Nat × Blk))) [135] [3, 9, 12, 13, 14, 22, 23, 114, 115, 116] rfl (fun z80 hm => ?_) (fun x79 hm => ?_)
     ·refine TG (SA TK rfl (SA TK rfl (SA TK rfl ?_)))
      obtain ⟨r81, hr81, hm⟩ := BI hm
      refine SX rfl rfl (RN rfl rfl (SC (.d _) (SC (.d _) SN)) (slices_Contains_Setting_c hr81)) (SB TK rfl (fun q82 hq82 => ?_))
      cases q82
      ·replace hm := JB hq82 hm
       refine SA TK rfl (SA TK rfl (SA TK rfl ?_))
       obtain ⟨r83, hr83, hm⟩ := BI hm
       refine SX rfl rfl (RN rfl rfl (SC (.d _) (SC (.d _) SN)) (slices_Contains_Setting_c hr83)) (SA TK rfl (TN (WT ?_)))
       exact ⟨_, [0, 1, 2, 3, 4, 5, 6, 7, 8, 9, 10], (SJ hm), rfl, (kB rfl), rfl⟩
      ·replace hm := JA hq82 hm
       iterate 5 (refine SA TK rfl ?_)
       refine TN (WT ?_)
       exact ⟨_, [0, 1, 2, 3, 4, 5, 6, 7, 8, 9, 10], (SJ hm), rfl, (kB rfl), rfl⟩
     ·refine WN [3, 9, 12, 13, 14, 22, 23, 114, 115, 116, 135] rfl rfl ?_
      refine TC _ rfl (fun h84 => ?_) (fun h84 => ?_)
      ·replace hm := JA h84 hm
       refine TG (SA TK rfl (TN (WK (WT (WN [3, 9, 12, 13, 14, 114, 115, 116] rfl rfl (TG ?_))))))
       obtain ⟨g85, hm⟩ := GI hm
       refine SX rfl rfl (x_ar rfl rfl rfl rfl g85) (SA TK rfl (TN (WT ?_)))
       exact ⟨_, [0, 1, 2, 3, 4, 5, 6, 7, 8], (SJ hm), rfl, (kB rfl), rfl⟩
      ·replace hm := JB h84 hm
       refine RS (SA TK rfl (SA TK rfl (SA TK rfl ?_)))
       obtain ⟨r86, hr86, hm⟩ := BI hm
       refine SX rfl rfl (RN rfl rfl (SC (.d _) (SC (.d _) SN)) (slices_Contains_Setting_c hr86)) (TN (WN [3, 9, 12, 13, 14, 22, 114, 115, 116, 139] rfl rfl ?_))
       refine TC _ rfl (fun h87 => ?_) (fun h87 => ?_)
       ·replace hm := JA h87 hm
        refine twp_draw follows  ?_
        iterate 16 (refine DA [0, 1, 2, 3, 4, 5, 6, 7, 8, 9, 10] TK rfl ?_)
        obtain ⟨r88, hr88, hm⟩ := BI hm
        refine DX [0, 1, 2, 3, 4, 5, 6, 7, 8, 9, 10] rfl rfl (RN rfl rfl (SC (.d _) (SC (.d _) SN)) (table_Index_c hr88)) ?_
        obtain ⟨e89, he89, hm⟩ := GV hm
        refine DX [0, 1, 2, 3, 4, 5, 6, 7, 8, 9, 10] rfl rfl (x_ix TK rfl rfl rfl rfl he89) (DA [0, 1, 2, 3, 4, 5, 6, 7, 8, 9, 10] TK rfl ?_)
        obtain ⟨r90, hr90, hm⟩ := BI hm
        refine DX [0, 1, 2, 3, 4, 5, 6, 7, 8, 9, 10] rfl rfl (RN rfl rfl (SC (.d _) (SC (.d _) SN)) (slices_Index_int_c hr90)) ?_
        refine DT ?_ (by kernel_rfl)
        obtain ⟨r91, hr91, hm⟩ := BI hm
        obtain ⟨r92, r93⟩ := r91
        refine s_callM [2, 0, 1, 3, 6, 7, 8] (fun j => Nat.beq j 6) rfl rfl rfl (by decide) rfl rfl rfl rfl (compile_builder_shared_c1_c hr91) rfl rfl rfl ?_
        refine TN (WK (WT (WN [3, 9, 12, 13, 14, 114, 115, 116] rfl rfl (TG ?_))))
        obtain ⟨g94, hm⟩ := GI hm
        refine SX rfl rfl (x_ar rfl rfl rfl rfl g94) (SA TK rfl (TN (WT ?_)))
        exact ⟨_, [0, 1, 2, 3, 4, 5, 6, 7, 8], (SJ hm), rfl, (kB rfl), rfl⟩
       ·replace hm := JB h87 hm
        refine TS (WK (WT (WN [3, 9, 12, 13, 14, 114, 115, 116] rfl rfl (TG ?_))))
        obtain ⟨g95, hm⟩ := GI hm
        refine SX rfl rfl (x_ar rfl rfl rfl rfl g95) (SA TK rfl (TN (WT ?_)))
        exact ⟨_, [0, 1, 2, 3, 4, 5, 6, 7, 8], (SJ hm), rfl, (kB rfl), rfl⟩
    ·replace hm := JF h76 hm
     refine twp_exit (WX ?_)
     obtain ⟨v96, hm, hz⟩ := II hm
     rw [hz75 _ hz] at hm
     refine WX (WH (WT ?_))
     exact ⟨_, [0, 1, 2, 3, 4, 5, 6, 7, 8], (SJ hm), rfl, (kB rfl), rfl⟩
   ·obtain ⟨c64, b65⟩ := j
    refine WN [12, 13] rfl rfl (twp_dseq follows  ?_)
    iterate 3 (refine DA [0, 1, 2, 3, 4, 5, 6, 7, 8] TK rfl ?_)
    refine DT ?_ (by kernel_rfl)
    refine SA TK rfl (TN (WN [6, 7] rfl rfl ?_))
    refine c_frzO 7 8 [6] rfl rfl rfl rfl rfl (by simp) rfl rfl ?_
    refine TR ?_
    obtain ⟨rfl, rfl⟩ := Prod.mk.inj (Option.some.inj hm)
    exact ⟨_, [0, 1], res rfl, by decide, (kB rfl), rfl, rfl⟩

end Go.Proofs.YtcagmechagiclaaGreatDoor
