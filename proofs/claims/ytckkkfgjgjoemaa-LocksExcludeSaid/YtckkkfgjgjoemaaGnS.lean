/- The library's sort, laid at this program. No condition. -/
import Derived.Test.YtckkkfgjgjoemaaTl2
import Derived.Test.YtckkkfgjgjoemaaGnU
import Derived.Shelf.SlSortCmp.NoneTotal
import Derived.KernelRfl
set_option maxHeartbeats 400000
set_option linter.unusedSimpArgs false
set_option linter.unusedVariables false
set_option maxRecDepth 20000
namespace Go.Proofs.Ytckkkfgjgjoemaa
open Go Go.TL Go.Sort Go.Shelf Go.RowKit Go.Lib

def sort61_ren : Go.Shelf.Ren := ⟨fun | 6 => 61 | 15 => 77 | 14 => 76 | 28 => 89 | 29 => 90 | 20 => 81 | 21 => 82 | 22 => 83 | 23 => 84 | 24 => 85 | 25 => 86 | 26 => 87 | 27 => 88 | 46 => 92 | 47 => 93 | 48 => 94 | 49 => 95 | 50 => 96 | 57 => 97 | n => n, fun | 22 => 34 | 24 => 54 | 25 => 80 | 3 => 3 | 39 => 92 | 0 => 0 | 53 => 106 | 55 => 108 | 4 => 4 | 46 => 99 | 45 => 98 | 50 => 103 | 5 => 5 | 9 => 9 | 66 => 111 | 70 => 115 | 76 => 117 | 77 => 118 | n => n, fun | n => n⟩
theorem sort61 : Go.Proofs.SlLaysF0.n6 Try.prog sort61_ren where
  mixed := by kernel_rfl
  f6 := ⟨Try.f61.name, by kernel_rfl, Try.func61.trans (congrArg some (by kernel_rfl))⟩
  f14 := ⟨Try.f76.name, by kernel_rfl, Try.func76.trans (congrArg some (by kernel_rfl))⟩
  f15 := Try.func77.trans (congrArg some (by kernel_rfl))
  f20 := ⟨Try.f81.name, by kernel_rfl, Try.func81.trans (congrArg some (by kernel_rfl))⟩
  f21 := ⟨Try.f82.name, by kernel_rfl, Try.func82.trans (congrArg some (by kernel_rfl))⟩
  f22 := ⟨Try.f83.name, by kernel_rfl, Try.func83.trans (congrArg some (by kernel_rfl))⟩
  f23 := ⟨Try.f84.name, by kernel_rfl, Try.func84.trans (congrArg some (by kernel_rfl))⟩
  f24 := ⟨Try.f85.name, by kernel_rfl, Try.func85.trans (congrArg some (by kernel_rfl))⟩
  f25 := ⟨Try.f86.name, by kernel_rfl, Try.func86.trans (congrArg some (by kernel_rfl))⟩
  f26 := ⟨Try.f87.name, by kernel_rfl, Try.func87.trans (congrArg some (by kernel_rfl))⟩
  f27 := ⟨Try.f88.name, by kernel_rfl, Try.func88.trans (congrArg some (by kernel_rfl))⟩
  f28 := Try.func89.trans (congrArg some (by kernel_rfl))
  f29 := Try.func90.trans (congrArg some (by kernel_rfl))
  f46 := ⟨Try.f92.name, by kernel_rfl, Try.func92.trans (congrArg some (by kernel_rfl))⟩
  f47 := Try.func93.trans (congrArg some (by kernel_rfl))
  f48 := Try.func94.trans (congrArg some (by kernel_rfl))
  f49 := ⟨Try.f95.name, by kernel_rfl, Try.func95.trans (congrArg some (by kernel_rfl))⟩
  f50 := ⟨Try.f96.name, by kernel_rfl, Try.func96.trans (congrArg some (by kernel_rfl))⟩
  f57 := ⟨Try.f97.name, by kernel_rfl, Try.func97.trans (congrArg some (by kernel_rfl))⟩
  t0 := Try.underlying0
  a0 := Try.isAgg0
  z0 := Try.sizeOf0
  v0 := Try.zeroValue0
  t3 := Try.underlying3
  a3 := Try.isAgg3
  z3 := Try.sizeOf3
  v3 := Try.zeroValue3
  t4 := Try.underlying4
  a4 := Try.isAgg4
  z4 := Try.sizeOf4
  v4 := Try.zeroValue4
  t5 := Try.underlying5
  a5 := Try.isAgg5
  z5 := Try.sizeOf5
  v5 := Try.zeroValue5
  t9 := Try.underlying9
  a9 := Try.isAgg9
  z9 := Try.sizeOf9
  v9 := Try.zeroValue9
  t22 := Try.underlying34
  a22 := Try.isAgg34
  z22 := Try.sizeOf34
  v22 := Try.zeroValue34
  t25 := Try.underlying80
  a25 := Try.isAgg80
  z25 := Try.sizeOf80
  v25 := Try.zeroValue80
  t39 := Try.underlying92
  a39 := Try.isAgg92
  z39 := Try.sizeOf92
  v39 := Try.zeroValue92
  t45 := Try.underlying98
  a45 := Try.isAgg98
  z45 := Try.sizeOf98
  v45 := Try.zeroValue98
  t46 := Try.underlying99
  a46 := Try.isAgg99
  z46 := Try.sizeOf99
  v46 := Try.zeroValue99
  t50 := Try.underlying103
  a50 := Try.isAgg103
  z50 := Try.sizeOf103
  v50 := Try.zeroValue103
  t53 := Try.underlying106
  a53 := Try.isAgg106
  z53 := Try.sizeOf106
  v53 := Try.zeroValue106
  t55 := Try.underlying108
  a55 := Try.isAgg108
  z55 := Try.sizeOf108
  v55 := Try.zeroValue108
  t66 := Try.underlying111
  a66 := Try.isAgg111
  z66 := Try.sizeOf111
  v66 := Try.zeroValue111
  t70 := Try.underlying115
  a70 := Try.isAgg115
  z70 := Try.sizeOf115
  v70 := Try.zeroValue115
  t76 := Try.underlying117
  a76 := Try.isAgg117
  z76 := Try.sizeOf117
  v76 := Try.zeroValue117
  t77 := Try.underlying118
  a77 := Try.isAgg118
  z77 := Try.sizeOf118
  v77 := Try.zeroValue118
theorem slices_SortFunc_Setting_c {G : FuncId} {c : D} {cs : List D} {m : Setting → Setting → Option Int} (hs : SortOk m) (hfn : fnOf c = some (G, cs)) (hclo : ∀ a b r, m a b = some r → RetD Try.prog G ([a.enc, b.enc] ++ cs) (.int .i64 r)) (xs : List Setting) (hlen : xs.length ≤ 1000000000) : Ret Try.prog 61 [.flat 54 2 (xs.map Setting.enc)] (fun _ => false) [.msl 0 2 0 xs.length, .d c] (.tup []) [.flat 54 2 ((sortM m xs).map Setting.enc)] := by
  have hcb : callB Try.prog G = true := by
    obtain ⟨r, hr⟩ := hs.tot default default
    obtain ⟨_, _, _, h, _⟩ := hclo _ _ _ hr
    exact h.1
  have hlt : ltOf (fun x y => (m x y).getD 0) = ltM m := rfl
  have hS := ret_sortK (P := Try.prog) (F := 61) (G := G) (sz := 2) (f := Setting.enc) (c := c) (cs := cs) (cf := fun x y => (m x y).getD 0) (S := fun d => d.toList.mergeSort fun x y => !(ltM m) y x) 54 (fun _ => false) xs callB61 (fun _ => rfl) (fun _ => rfl) (fun _ => rfl) hfn
    (fun x y => by obtain ⟨r, hr⟩ := hs.tot x y; rw [hr]; exact hclo x y r hr) (by omega) (by rw [List.length_mergeSort])
    (fun p cap fv w => AnyF.slices_SortFunc_none { sort61 with } p cap fv w)
    (fun blk off cap cb d w hcl hH hb hl => AnyQ.slices_SortFunc_total sort61 2 Try.isAgg54 Try.sizeOf54 (fun x => (Setting.enc x).cells.map D.val) (fun _ => rfl) (fun x v hv => by obtain ⟨c, hc, rfl⟩ := List.mem_map.1 hv; simp only [Setting.enc, D.cells, List.mem_cons, List.not_mem_nil, or_false] at hc; rcases hc with rfl | rfl <;> rfl) (fun x y => (m x y).getD 0)
      ⟨hs.irrefl, hs.trans, hs.ntrans⟩ G cb blk off cap d w (callB_enters hcb) hcl hH hb hl hs.anti)
  rwa [show (xs.toArray.toList.mergeSort fun x y => !(ltM m) y x) = sortM m xs from sortM_merge hs xs] at hS

end Go.Proofs.Ytckkkfgjgjoemaa
