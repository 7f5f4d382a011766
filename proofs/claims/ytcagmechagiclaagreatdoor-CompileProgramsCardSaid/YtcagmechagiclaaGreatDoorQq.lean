/- Texts of this proof, joined, without what it does not use. No condition. -/
import Derived.Ground.NamesProg
import Derived.Shelf.SlSortCmp.NoneTotal
import Derived.Shelf.Slices.CompactI
import Derived.Shelf.Slices.In.SortNone
import Derived.Shelf.Sort.Plain
import Derived.Shelf.Strconv.Itoa3
import Derived.Test.YtcagmechagiclaaGreatDoorQp

set_option maxHeartbeats 8000000
set_option linter.unusedSimpArgs false
set_option linter.unusedVariables false
set_option maxRecDepth 20000
namespace Go.Proofs.YtcagmechagiclaaGreatDoor
open Go Go.TL Go.Sort Go.Shelf Go.RowKit Go.Lib

def qIG:Go.Shelf.Ren:=⟨fun|6=>146|15=>158|14=>173|28=>185|29=>186|20=>189|21=>190|22=>191|23=>192|24=>193|25=>194|26=>195|27=>196|46=>206|47=>202|48=>203|49=>207|50=>208|57=>214|n=>n,fun|22=>71|24=>133|25=>169|3=>3|39=>186|0=>0|53=>208|55=>210|4=>4|46=>203|45=>202|50=>109|5=>5|9=>9|66=>223|70=>174|76=>233|77=>234|n=>n,fun|n=>n⟩
theorem qNK:Go.Proofs.SlLaysF0.n6 Tryz.prog qIG where
 mixed:=by kernel_rfl
 f6:=⟨Tryz.f146.name,by kernel_rfl,Tryz.func146.trans (congrArg some (by kernel_rfl))⟩
 f14:=⟨Tryz.f173.name,by kernel_rfl,Tryz.func173.trans (congrArg some (by kernel_rfl))⟩
 f15:=Tryz.func158.trans (congrArg some (by kernel_rfl))
 f20:=⟨Tryz.f189.name,by kernel_rfl,Tryz.func189.trans (congrArg some (by kernel_rfl))⟩
 f21:=⟨Tryz.f190.name,by kernel_rfl,Tryz.func190.trans (congrArg some (by kernel_rfl))⟩
 f22:=⟨Tryz.f191.name,by kernel_rfl,Tryz.func191.trans (congrArg some (by kernel_rfl))⟩
 f23:=⟨Tryz.f192.name,by kernel_rfl,Tryz.func192.trans (congrArg some (by kernel_rfl))⟩
 f24:=⟨Tryz.f193.name,by kernel_rfl,Tryz.func193.trans (congrArg some (by kernel_rfl))⟩
 f25:=⟨Tryz.f194.name,by kernel_rfl,Tryz.func194.trans (congrArg some (by kernel_rfl))⟩
 f26:=⟨Tryz.f195.name,by kernel_rfl,Tryz.func195.trans (congrArg some (by kernel_rfl))⟩
 f27:=⟨Tryz.f196.name,by kernel_rfl,Tryz.func196.trans (congrArg some (by kernel_rfl))⟩
 f28:=Tryz.func185.trans (congrArg some (by kernel_rfl))
 f29:=Tryz.func186.trans (congrArg some (by kernel_rfl))
 f46:=⟨Tryz.f206.name,by kernel_rfl,Tryz.func206.trans (congrArg some (by kernel_rfl))⟩
 f47:=Tryz.func202.trans (congrArg some (by kernel_rfl))
 f48:=Tryz.func203.trans (congrArg some (by kernel_rfl))
 f49:=⟨Tryz.f207.name,by kernel_rfl,Tryz.func207.trans (congrArg some (by kernel_rfl))⟩
 f50:=⟨Tryz.f208.name,by kernel_rfl,Tryz.func208.trans (congrArg some (by kernel_rfl))⟩
 f57:=⟨Tryz.f214.name,by kernel_rfl,Tryz.func214.trans (congrArg some (by kernel_rfl))⟩
 t0:=Tryz.underlying0
 a0:=Tryz.isAgg0
 z0:=Tryz.sizeOf0
 v0:=Tryz.zeroValue0
 t3:=Tryz.underlying3
 a3:=Tryz.isAgg3
 z3:=Tryz.sizeOf3
 v3:=Tryz.zeroValue3
 t4:=Tryz.underlying4
 a4:=Tryz.isAgg4
 z4:=Tryz.sizeOf4
 v4:=Tryz.zeroValue4
 t5:=Tryz.underlying5
 a5:=Tryz.isAgg5
 z5:=Tryz.sizeOf5
 v5:=Tryz.zeroValue5
 t9:=Tryz.underlying9
 a9:=Tryz.isAgg9
 z9:=Tryz.sizeOf9
 v9:=Tryz.zeroValue9
 t22:=Tryz.underlying71
 a22:=Tryz.isAgg71
 z22:=Tryz.sizeOf71
 v22:=Tryz.zeroValue71
 t25:=Tryz.underlying169
 a25:=Tryz.isAgg169
 z25:=Tryz.sizeOf169
 v25:=Tryz.zeroValue169
 t39:=Tryz.underlying186
 a39:=Tryz.isAgg186
 z39:=Tryz.sizeOf186
 v39:=Tryz.zeroValue186
 t45:=Tryz.underlying202
 a45:=Tryz.isAgg202
 z45:=Tryz.sizeOf202
 v45:=Tryz.zeroValue202
 t46:=Tryz.underlying203
 a46:=Tryz.isAgg203
 z46:=Tryz.sizeOf203
 v46:=Tryz.zeroValue203
 t50:=Tryz.underlying109
 a50:=Tryz.isAgg109
 z50:=Tryz.sizeOf109
 v50:=Tryz.zeroValue109
 t53:=Tryz.underlying208
 a53:=Tryz.isAgg208
 z53:=Tryz.sizeOf208
 v53:=Tryz.zeroValue208
 t55:=Tryz.underlying210
 a55:=Tryz.isAgg210
 z55:=Tryz.sizeOf210
 v55:=Tryz.zeroValue210
 t66:=Tryz.underlying223
 a66:=Tryz.isAgg223
 z66:=Tryz.sizeOf223
 v66:=Tryz.zeroValue223
 t70:=Tryz.underlying174
 a70:=Tryz.isAgg174
 z70:=Tryz.sizeOf174
 v70:=Tryz.zeroValue174
 t76:=Tryz.underlying233
 a76:=Tryz.isAgg233
 z76:=Tryz.sizeOf233
 v76:=Tryz.zeroValue233
 t77:=Tryz.underlying234
 a77:=Tryz.isAgg234
 z77:=Tryz.sizeOf234
 v77:=Tryz.zeroValue234
theorem qI {G:FuncId} {c:D} {cs:List D} {m:Setting→Setting→Option Int} (hs:SortOk m) (hfn:qQD c=some (G,cs)) (hclo:∀ a b r,m a b=some r→RetD Tryz.prog G ([a.enc,b.enc]++cs) (.int .i64 r)) (xs:List Setting) (hlen:xs.length≤1000000000):Ret Tryz.prog 146 [.flat 133 2 (xs.map Setting.enc)] (fun _=>false) [.msl 0 2 0 xs.length,.d c] (.tup []) [.flat 133 2 ((qP m xs).map Setting.enc)]:=by
 have hcb:bA Tryz.prog G=true:=by
  obtain⟨r,hr⟩:=hs.tot default default
  obtain⟨_,_,_,h,_⟩:=hclo _ _ _ hr
  exact h.1
 have hlt:ltOf (fun x y=>(m x y).getD 0)=ltM m:=rfl
 have hS := qPK (P := Tryz.prog) (F := 146) (G := G) (sz := 2) (f := Setting.enc) (c := c) (cs := cs) (cf := fun x y => (m x y).getD 0) (S := fun d => d.toList.mergeSort fun x y => !(ltM m) y x) 133 (fun _ => false) xs qUF (fun _ => rfl) (fun _ => rfl) (fun _ => rfl) hfn
  (fun x y=>by obtain⟨r,hr⟩:=hs.tot x y;rw [hr];exact hclo x y r hr) (by omega) (by rw [List.length_mergeSort])
  (fun p cap fv w=>AnyF.slices_SortFunc_none { qNK with } p cap fv w)
  (fun blk off cap cb d w hcl hH hb hl => AnyQ.slices_SortFunc_total qNK 2 Tryz.isAgg133 Tryz.sizeOf133 (fun x => (Setting.enc x).cells.map D.val) (fun _ => rfl) (fun x v hv => by obtain ⟨c, hc, rfl⟩ := List.mem_map.1 hv; simp only [Setting.enc, D.cells, List.mem_cons, List.not_mem_nil, or_false] at hc; rcases hc with rfl | rfl <;> rfl) (fun x y => (m x y).getD 0)
   ⟨hs.irrefl, hs.trans, hs.ntrans⟩ G cb blk off cap d w (qHZ hcb) hcl hH hb hl hs.anti)
 rwa [show (xs.toArray.toList.mergeSort fun x y=>!(ltM m) y x)=qP m xs from qIF hs xs] at hS

def qMJ:Go.Shelf.Ren:=⟨fun|171=>97|243=>150|246=>175|283=>197|284=>198|285=>199|286=>200|129=>186|317=>209|318=>210|319=>211|320=>212|337=>215|338=>216|n=>n,fun|3=>3|9=>9|2=>2|4=>4|171=>218|0=>0|53=>210|37=>220|5=>5|173=>221|212=>231|51=>208|20=>20|213=>232|46=>186|232=>237|233=>238|n=>n,fun|17=>0|18=>1|19=>2|n=>n⟩
theorem itoa97:Go.Proofs.Lays.n171 Tryz.prog qMJ where
 mixed:=by kernel_rfl
 f129:=Tryz.func186.trans (congrArg some (by kernel_rfl))
 f171:=Tryz.func97.trans (congrArg some (by kernel_rfl))
 f243:=Tryz.func150.trans (congrArg some (by kernel_rfl))
 f246:=Tryz.func175.trans (congrArg some (by kernel_rfl))
 f283:=Tryz.func197.trans (congrArg some (by kernel_rfl))
 f284:=Tryz.func198.trans (congrArg some (by kernel_rfl))
 f285:=Tryz.func199.trans (congrArg some (by kernel_rfl))
 f286:=Tryz.func200.trans (congrArg some (by kernel_rfl))
 f317:=Tryz.func209.trans (congrArg some (by kernel_rfl))
 f318:=Tryz.func210.trans (congrArg some (by kernel_rfl))
 f319:=Tryz.func211.trans (congrArg some (by kernel_rfl))
 f320:=Tryz.func212.trans (congrArg some (by kernel_rfl))
 f337:=Tryz.func215.trans (congrArg some (by kernel_rfl))
 f338:=Tryz.func216.trans (congrArg some (by kernel_rfl))
 t0:=Tryz.underlying0
 a0:=Tryz.isAgg0
 z0:=Tryz.sizeOf0
 v0:=Tryz.zeroValue0
 t2:=Tryz.underlying2
 a2:=Tryz.isAgg2
 z2:=Tryz.sizeOf2
 v2:=Tryz.zeroValue2
 t3:=Tryz.underlying3
 a3:=Tryz.isAgg3
 z3:=Tryz.sizeOf3
 v3:=Tryz.zeroValue3
 t4:=Tryz.underlying4
 a4:=Tryz.isAgg4
 z4:=Tryz.sizeOf4
 v4:=Tryz.zeroValue4
 t5:=Tryz.underlying5
 a5:=Tryz.isAgg5
 z5:=Tryz.sizeOf5
 v5:=Tryz.zeroValue5
 t9:=Tryz.underlying9
 a9:=Tryz.isAgg9
 z9:=Tryz.sizeOf9
 v9:=Tryz.zeroValue9
 t20:=Tryz.underlying20
 a20:=Tryz.isAgg20
 z20:=Tryz.sizeOf20
 v20:=Tryz.zeroValue20
 t37:=Tryz.underlying220
 a37:=Tryz.isAgg220
 z37:=Tryz.sizeOf220
 v37:=Tryz.zeroValue220
 t46:=Tryz.underlying186
 a46:=Tryz.isAgg186
 z46:=Tryz.sizeOf186
 v46:=Tryz.zeroValue186
 t51:=Tryz.underlying208
 a51:=Tryz.isAgg208
 z51:=Tryz.sizeOf208
 v51:=Tryz.zeroValue208
 t53:=Tryz.underlying210
 a53:=Tryz.isAgg210
 z53:=Tryz.sizeOf210
 v53:=Tryz.zeroValue210
 t171:=Tryz.underlying218
 a171:=Tryz.isAgg218
 z171:=Tryz.sizeOf218
 v171:=Tryz.zeroValue218
 t173:=Tryz.underlying221
 a173:=Tryz.isAgg221
 z173:=Tryz.sizeOf221
 v173:=Tryz.zeroValue221
 t212:=Tryz.underlying231
 a212:=Tryz.isAgg231
 z212:=Tryz.sizeOf231
 v212:=Tryz.zeroValue231
 t213:=Tryz.underlying232
 a213:=Tryz.isAgg232
 z213:=Tryz.sizeOf232
 t232:=Tryz.underlying237
 a232:=Tryz.isAgg237
 z232:=Tryz.sizeOf237
 v232:=Tryz.zeroValue237
 t233:=Tryz.underlying238
 a233:=Tryz.isAgg238
 z233:=Tryz.sizeOf238
 v233:=Tryz.zeroValue238
 g17:=by kernel_rfl
 g18:=by kernel_rfl
 g19:=by kernel_rfl
theorem qHK (i:Nat) (hi:i < 100):RetN Tryz.prog 97 [.int .i64 i] (.str ⟨(Go.Lib.decDigits i).toArray⟩):=qPL qXY fun w=>Any.strconv_Itoa_small itoa97 i hi w

end Go.Proofs.YtcagmechagiclaaGreatDoor

set_option maxHeartbeats 8000000
set_option linter.unusedSimpArgs false
set_option linter.unusedVariables false
set_option maxRecDepth 20000
namespace Go.Proofs.YtcagmechagiclaaGreatDoor
open Go Go.TL

theorem qFC {p0:Table} {r:Bool} (hm:oK p0=some r):RetN Tryz.prog 9 [p0.enc] (.bool (r)):=by
 refine .unit (aQ callB9 Tryz.func9 Q Tryz.ntmps9 Q Q (fun wX gX=>?_)) Q
 unfold oK at hm
 refine WN [0] Q Q (RS (eR 0 Q Q Q (SA TK Q (TN (WN [1] Q Q ?_)))))
 refine dI hm (fun _=>([]:Fr)) (fun _=>([]:List (Nat×Blk))) [] [1] Q (fun z1 hm hz1=>?_) (fun j hm=>?_)
 ·refine RS (SA TK Q (SA TK Q (SX Q Q (aT TK Q Q Q) (SA TK Q (TN (WN [1, 6, 7, 8] Q Q (TB (aZ hm (fun x3 => ([(8, .d (.int .i64 x3))] : Fr)) (fun x3 => ([] : List (Nat × Blk))) [8] [1, 6, 7] [0] Q k0 Q Q Q Q Q (fun x3 z4 hm hz4 => (WN [1, 6, 7, 8] Q Q ?_))))))))))
  refine RS (SA TK Q (TN (WN [1,6,7,8,9] Q Q (TQ ?_))))
  refine TC _ Q (fun h5=>?_) (fun h5=>?_)
  ·replace hm:=JT h5 hm
   refine TS (WT (WN [1,6,7,8] Q Q (TQ (TB (RS ?_)))))
   obtain⟨e6,he6,hm⟩:=GV hm
   refine SX Q Q (bZ TK Q Q Q Q he6) (SA TK Q (dA 1 Q Q iH Q (cO 1 [none,none,none,some 3,some 2,some 1,none,none,some 3,some 2,some 1,some 2,some 1,some 2] Q Q (SA TK Q (TN (WN [1,4,6,7,8] Q Q (RS (SA TK Q (SA TK Q ?_)))))))))
   refine SX Q Q (aT TK Q Q Q) (SA TK Q (SA TK Q (SX Q Q (aT TK Q Q Q) ?_)))
   obtain⟨g7,hm⟩:=GI hm
   refine SX Q Q (aV Q Q Q Q g7) (SA TK Q (SA TK Q (SX Q Q (aT TK Q Q Q) ?_)))
   obtain⟨g8,hm⟩:=GI hm
   refine SX Q Q (aV Q Q Q Q g8) (SA TK Q (SA TK Q (SX Q Q (aT TK Q Q Q) ?_)))
   obtain⟨g9,hm⟩:=GI hm
   refine SX Q Q (aV Q Q Q Q g9) (SA TK Q (SA TK Q (SX Q Q (aT TK Q Q Q) ?_)))
   obtain⟨g10,hm⟩:=GI hm
   refine SX Q Q (aV Q Q Q Q g10) (SA TK Q (SA TK Q (SX Q Q (aT TK Q Q Q) ?_)))
   obtain⟨g11,hm⟩:=GI hm
   refine SX Q Q (aV Q Q Q Q g11) (SA TK Q (TN (WN [1,6,7,8,35] Q Q ?_)))
   refine TC _ Q (fun h12=>?_) (fun h12=>?_)
   ·replace hm:=JT h12 hm
    refine RS (SA TK Q (TN (WN [2] Q Q (TR (WB (WR ?_))))))
    obtain⟨v13,hm,hz⟩:=II hm
    rw [hz4 _ hz] at hm
    refine WR (WB ?_)
    obtain⟨v14,hm,hz⟩:=II hm
    rw [hz1 _ hz] at hm
    refine WR ?_
    obtain rfl:=OJ hm
    exact EndsS.one _ Q (.d _) (.refl _)
   ·replace hm:=JF h12 hm
    refine TS (WK (WT (WN [1,6,7,8] Q Q (TG ?_))))
    obtain⟨g15,hm⟩:=GI hm
    refine SX Q Q (aV Q Q Q Q g15) (SA TK Q (TN (WT ?_)))
    exact⟨_,[0],(SJ hm),Q,k0,Q⟩
  ·replace hm:=JF h5 hm
   refine aJ (WX ?_)
   obtain⟨v16,hm,hz⟩:=II hm
   rw [hz4 _ hz] at hm
   refine WX (WH (WT ?_))
   exact⟨_,[0],(SJ hm),Q,k0,Q⟩
 ·refine WN [1] Q Q ?_
  refine kQ [(2,.d (.bool (((decide ((p0.routes.length:Int)≤(100:Int)))&&(decide ((p0.points.length:Int)≤(100:Int)))))))] [2] [] Q ?_ ?_
  ·refine TG (SA TK Q (SA TK Q (SX Q Q (aT TK Q Q Q) (SA TK Q (SB TK Q (fun q17 hq17 => ?_))))))
   cases q17
   ·iterate 6 (refine SA TK Q ?_)
    refine TN (WT ?_)
    exact⟨[0],Q,k0,dZ (bS (bT (by simp [hq17])) Q) Q⟩
   ·refine SA TK Q (SA TK Q (SX Q Q (aT TK Q Q Q) (SA TK Q (SA TK Q (SA TK Q (TN (WT ?_)))))))
    exact⟨[0],Q,k0,dZ (bS (bT (by simp [hq17])) Q) Q⟩
  ·refine WN [2] Q Q (TR ?_)
   obtain rfl:=OJ hm
   exact EndsS.one _ Q (.d _) (.refl _)

theorem qHJ  {r:Table} (hm:xJ=some r):RetD Tryz.prog 29 [] (r.enc):=by
 refine .of (mv:=fun _=>false) (aQ zAH Tryz.func29 Q Tryz.ntmps29 Q Q (fun wX gX=>?_))
 unfold xJ at hm
 refine WN [] Q Q (RS (dA 0 Q Q qKS Q (cO 0 [some 14,some 1,some 1,none,none] Q Q (TN (WN [0] Q Q (RS (SX Q Q (dJ Q qSE qBC Q Q Q Q) (SX Q Q (dW [.tmp 1] TK Q Q qBC Q Q Q Q Q) ?_))))))))
 refine SX Q Q (dW [.const (Value.int IntKind.i64 1)] TK Q Q lI Q Q Q Q Q) (SX Q Q (dJ Q zBL iH Q Q Q Q) (qGP 4 [none,none,none,none,some 2,none,none,none,some 3,some 2,some 1,some 2,some 1,some 2] Q (SX Q Q (dJ Q qSE qBC Q Q Q Q) (SX Q Q (dW [.tmp 5] TK Q Q qBC Q Q Q Q Q) (SX Q Q (dW [.const (Value.int IntKind.i64 2)] TK Q Q lI Q Q Q Q Q) (SX Q Q (dJ Q zBL iH Q Q Q Q) (qGP 8 [none,none,none,none,some 2,none,none,none,some 3,some 2,some 1,some 2,some 1,some 2] Q (SX Q Q (dW [.tmp 4,.tmp 8] TK Q Q iH Q Q Q Q Q) ?_))))))))
 refine SX Q Q (dJ Q plc25 qKS Q Q Q Q) (qGP 10 [none,some 1,some 1,none,none] Q (SA TK Q (TN (WN [0] Q Q (TR ?_)))))
 obtain rfl:=OJ hm
 exact EndsS.cellR _ TK Q Q Q Q Q (.d _)

theorem gZ {p0:Int} {p1:Int} {r:Bool} (hm:eC p0 p1=some r):RetN Tryz.prog 117 [.int .i64 p0,.int .i64 p1] (.bool (r)):=by
 refine .unit (aQ qUU Tryz.func117 Q Tryz.ntmps117 Q Q (fun wX gX=>?_)) Q
 unfold eC at hm
 refine WN [0,1] Q Q (RS (SA TK Q (TN (WN [0,1] Q Q ?_))))
 refine kQ [(4,.d (.bool (((decide ((0:Int)≤p0))&&(decide (p0 < p1))))))] [4] [] Q ?_ ?_
 ·refine TG (SA TK Q (SA TK Q (SB TK Q (fun q1 hq1 => ?_))))
  cases q1
  ·iterate 5 (refine SA TK Q ?_)
   refine TN (WT ?_)
   exact⟨[],Q,k0,dZ (bS (bT (by simp [hq1])) Q) Q⟩
  ·iterate 5 (refine SA TK Q ?_)
   refine TN (WT ?_)
   exact⟨[],Q,k0,dZ (bS (bT (by simp [hq1])) Q) Q⟩
 ·refine WN [4] Q Q (TR ?_)
  obtain rfl:=OJ hm
  exact EndsS.one _ Q (.d _) (.refl _)

theorem vZ {p0:Table} {r:Bool} (hm:jI p0=some r):RetN Tryz.prog 118 [p0.enc] (.bool (r)):=by
 refine .unit (aQ qUT Tryz.func118 Q Tryz.ntmps118 Q Q (fun wX gX=>?_)) Q
 unfold jI at hm
 refine WN [0] Q Q (RS (eR 0 Q Q Q (SA TK Q (TN (WN [1] Q Q (TQ (RS (SA TK Q (SA TK Q ?_)))))))))
 refine SX Q Q (aT TK Q Q Q) (SA TK Q (SA TK Q (SX Q Q (aT TK Q Q Q) (SA TK Q (TN (WN [1,11] Q Q ?_))))))
 refine TC _ Q (fun h1=>?_) (fun h1=>?_)
 ·replace hm:=eT h1 hm
  refine RS (SA TK Q (TN (WN [2] Q Q (TR (WR ?_)))))
  obtain rfl:=OJ hm
  exact EndsS.one _ Q (.d _) (.refl _)
 ·replace hm:=eU h1 hm
  refine TS (WT (WN [1] Q Q ?_))
  refine dI hm (fun _=>([]:Fr)) (fun _=>([]:List (Nat×Blk))) [] [] Q (fun z2 hm hz2=>?_) (fun j hm=>?_)
  ·refine RS (SA TK Q (SA TK Q (SX Q Q (aT TK Q Q Q) (SA TK Q (TN (WN [1, 13, 14, 15] Q Q (TB (aZ hm (fun x4 => ([(15, .d (.int .i64 x4))] : Fr)) (fun x4 => ([] : List (Nat × Blk))) [15] [1, 13, 14] [0] Q k0 Q Q Q Q Q (fun x4 z5 hm hz5 => (WN [1, 13, 14, 15] Q Q ?_))))))))))
   refine RS (SA TK Q (TN (WN [1,13,14,15,16] Q Q (TQ ?_))))
   refine TC _ Q (fun h6=>?_) (fun h6=>?_)
   ·replace hm:=JT h6 hm
    refine TS (WT (WN [1,13,14,15] Q Q (TQ (TB (RS (SA TK Q ?_))))))
    obtain⟨e7,he7,hm⟩:=GV hm
    refine SX Q Q (bZ TK Q Q Q Q he7) (SA TK Q (SA TK Q (SA TK Q (TN (WN [1,3,4,13,14,15] Q Q ?_)))))
    refine aK hm (fun x8=>([(46,.d (.bool (x8)))]:Fr)) (fun x8=>([]:List (Nat×Blk))) [46] [1,13,14,15] Q (fun z9 hm=>?_) (fun x8 hm=>?_)
    ·refine cN follows  ?_
     iterate 2 (refine DA [0] TK Q ?_)
     refine d_b [0] TK Q (fun q10 hq10=>?_)
     cases q10
     ·replace hm:=JF hq10 hm
      iterate 2 (refine DA [0] TK Q ?_)
      refine d_b [0] TK Q (fun q11 hq11=>?_)
      cases q11
      ·replace hm:=JF hq11 hm
       iterate 14 (refine DA [0] TK Q ?_)
       obtain⟨e12,he12,hm⟩:=GV hm
       refine DX [0] Q Q (bZ TK Q Q Q Q he12) ?_
       iterate 3 (refine DA [0] TK Q ?_)
       obtain⟨r13,hr13,hm⟩:=BI hm
       refine DX [0] Q Q (RN Q Q (SC (.d _) (SC (.d _) SN)) (gZ hr13)) ?_
       iterate 2 (refine DA [0] TK Q ?_)
       refine DT ?_ (by kernel_rfl)
       refine TN (WT ?_)
       exact⟨_,[0],(SJ hm),Q,k0,Q⟩
      ·replace hm:=JT hq11 hm
       iterate 4 (refine DA [0] TK Q ?_)
       obtain⟨g14,hm⟩:=GI hm
       refine DX [0] Q Q (aV Q Q Q Q g14) ?_
       obtain⟨e15,he15,hm⟩:=GV hm
       refine DX [0] Q Q (bZ TK Q Q Q Q he15) ?_
       iterate 4 (refine DA [0] TK Q ?_)
       refine d_b [0] TK Q (fun q16 hq16=>?_)
       cases q16
       ·replace hm:=JF hq16 hm
        iterate 3 (refine DA [0] TK Q ?_)
        obtain⟨e17,he17,hm⟩:=GV hm
        refine DX [0] Q Q (bZ TK Q Q Q Q he17) ?_
        iterate 3 (refine DA [0] TK Q ?_)
        obtain⟨r18,hr18,hm⟩:=BI hm
        refine DX [0] Q Q (RN Q Q (SC (.d _) (SC (.d _) SN)) (gZ hr18)) ?_
        iterate 2 (refine DA [0] TK Q ?_)
        refine DT ?_ (by kernel_rfl)
        refine TN (WT ?_)
        exact⟨_,[0],(SJ hm),Q,k0,Q⟩
       ·replace hm:=JT hq16 hm
        iterate 10 (refine DA [0] TK Q ?_)
        refine DT ?_ (by kernel_rfl)
        refine TN (WT ?_)
        exact⟨_,[0],(SJ hm),Q,k0,Q⟩
     ·replace hm:=JT hq10 hm
      iterate 24 (refine DA [0] TK Q ?_)
      refine DT ?_ (by kernel_rfl)
      refine TN (WT ?_)
      exact⟨_,[0],(SJ hm),Q,k0,Q⟩
    ·refine WN [1,13,14,15,46] Q Q ?_
     refine TC _ Q (fun h19=>?_) (fun h19=>?_)
     ·replace hm:=JA h19 hm
      refine RS (SA TK Q (TN (WN [2] Q Q (TR (WB (WR ?_))))))
      obtain⟨v20,hm,hz⟩:=II hm
      rw [hz5 _ hz] at hm
      refine WR (WB ?_)
      obtain⟨v21,hm,hz⟩:=II hm
      rw [hz2 _ hz] at hm
      refine WR ?_
      obtain rfl:=OJ hm
      exact EndsS.one _ Q (.d _) (.refl _)
     ·replace hm:=JB h19 hm
      refine TS (WK (WT (WN [1,13,14,15] Q Q (TG ?_))))
      obtain⟨g22,hm⟩:=GI hm
      refine SX Q Q (aV Q Q Q Q g22) (SA TK Q (TN (WT ?_)))
      exact⟨_,[0],(SJ hm),Q,k0,Q⟩
   ·replace hm:=JF h6 hm
    refine aJ (WX ?_)
    obtain⟨v23,hm,hz⟩:=II hm
    rw [hz5 _ hz] at hm
    refine WX (WH (WT ?_))
    exact⟨_,[0],(SJ hm),Q,k0,Q⟩
  ·refine WN [] Q Q (RS (SA TK Q (TN (WN [2] Q Q (TR ?_)))))
   obtain rfl:=OJ hm
   exact EndsS.one _ Q (.d _) (.refl _)

theorem tU (n:Nat) (hn:n≤1000000000) (mv:Nat→Bool):Ret Tryz.prog 143 [] mv ([.nilsl,.int .i64 n].map .d) (.msl 0 1 0 0) [.flat 3 1 []]:=by
 refine cC qUI Tryz.func143 Q Tryz.ntmps143 Q Q (fun wX gX=>(bG [0,1] (aO Q (aO Q .nil)) (bL Q) (RS (cQ _ Q (gW (.inr Q) Q) (TN (bG [0,1] (aO Q (aO Q .nil)) (bL Q) (TQ (RS (cQ _ Q (gW (.inl Q) Q) ?_)))))))))
 refine cQ _ Q (oC Q Q Q Q) (TN (bG [0,1,6] (aO Q (aO Q (aO Q .nil))) (bL Q) ?_))
 refine TC _ Q (fun hneg=>?_) (fun hneg=>?_)
 ·exact absurd (of_decide_eq_true hneg) (by omega)
 ·refine TS (WT (bG [0,1] (aO Q (aO Q .nil)) (bL Q) (TQ (RS (cQ _ Q (gW (.inl Q) Q) (cQ _ Q (gW (.inl Q) Q) (cQ _ Q (qBM Q wJ Q) (cQ _ Q (gW (.inl Q) Q) ?_))))))))
  refine cQ _ Q (oA Q wJ Q) ?_
  refine cQ _ Q (sG (r:=0) Q Q Q Q Q (by first|omega|(constructor<;>omega))) ?_
  refine cQ _ Q (sG (r:=(n:Int)) Q Q Q Q (by omega) (by first|omega|(constructor<;>omega))) ?_
  refine cQ _ Q (gW (.inr Q) Q) (TN (bG [0,1] (aO Q (aO Q .nil)) (bL Q) (RS (cQ _ Q (gW (.inl Q) Q) (cQ _ Q (oC Q Q Q Q) (TN (bG [0,1,16] (aO Q (aO Q (aO Q .nil))) (bL Q) ?_)))))))
  refine TC _ Q (fun hpos=>?_) (fun hpos=>?_)
  ·have hpos : 0 < n := by simpa using hpos
   refine TG (cQ _ Q (gW (.inl Q) Q) (cQ _ Q (gW (.inl Q) Q) (cQ _ Q (qBM Q wJ Q) (cQ _ Q (qOK Q wJ Q Q Q) (cQ _ Q (gW (.inl Q) Q) ?_)))))
   refine qNN (n:=n) Q wJ Tryz.underlying3 lI Q Q Q hpos (by decide) (by omega) (by omega) ?_
   refine cQ _ Q (gW (.inl Q) Q) (cQ _ Q (oA Q wJ Q) (cQ _ Q (qCO 0 1 8 0 n 0 0 Q wJ Q Q Q (Nat.le_refl _) (Nat.zero_le _)) (cQ _ Q (jW (.inr Q) Q) (TN (WT (bG [0] (fI Q .nil) (eA Q (bL Q)) (RS (cQ _ Q (jW (.inl Q) Q) ?_))))))))
   refine cQ _ Q (jW (.inr Q) Q) (TN (bG [4] (fI Q .nil) (eA Q (bL Q)) (TR ?_)))
   exact⟨_,[0],res Q,by decide,fun i hi=>absurd hi (Nat.not_lt_zero i),Q,Q⟩
  ·refine qAE 0 3 1 Q (TS (WT (bG [0] (fI Q .nil) (eA Q (bL Q)) (RS (cQ _ Q (jW (.inl Q) Q) (cQ _ Q (jW (.inr Q) Q) (TN (bG [4] (fI Q .nil) (eA Q (bL Q)) ?_))))))))
   refine TR ?_
   exact⟨_,[0],res Q,by decide,fun i hi=>absurd hi (Nat.not_lt_zero i),Q,Q⟩

theorem rN (xss:List (List Int)) (hn:xss.length≤1000) (ht:xss.flatten.length≤1000000000) (mv:Nat→Bool):Ret Tryz.prog 91 [] mv ([.sl 1 (xss.map fun l=>.sl 1 (l.map (D.int .i64)))].map .d) (.msl 0 1 0 xss.flatten.length) [.flat 3 1 (xss.flatten.map (D.int .i64))]:=by
 refine cC qYE Tryz.func91 Q Tryz.ntmps91 Q Q (fun wX gX=>(bG [0] (aO Q .nil) (bL Q) (RS (cQ _ Q (gW (.inr Q) Q) (TN (bG [0] (aO Q .nil) (bL Q) (RS (cQ _ Q (gW (.inr Q) Q) (TN ?_)))))))))
 refine bG [0,3] (aO Q (aO Q .nil)) (bL Q) (TQ (RS (cQ _ Q (gW (.inl Q) Q) ?_)))
 refine cQ _ Q (by first|exact qDJ Q yX Q (by first|exact List.length_map _|rfl)|exact oA Q yX Q) ?_
 refine cQ _ Q (gW (.inl Q) Q) (TN (bG [0,3,9,10,11] (aO Q (aO Q (aO Q (aO Q (aO Q .nil))))) (bL Q) (TB ?_)))
 refine pP (fun i=>([(3,.d (.int .i64 ((iC xss i).length:Int))),(11,.d (.int .i64 ((i:Nat):Int)))]:Fr)) (fun i=>([]:List (Nat×Blk))) (fun i=>i≤xss.length) (fun i=>xss.length - i) [3,11] [0,9,10] [] 0 (by decide) (fun i hi=>absurd hi (Nat.not_lt_zero i)) (Nat.zero_le _) (aO Q (aO Q (aO Q .nil))) Q (by rw [pL];rfl) (bL Q) Q ?_
 rintro i hok
 refine bG [3,11,0,9,10] (aO Q (aO Q (aO Q (aO Q (aO Q .nil))))) (bL Q) (RS (cQ _ Q (oC Q Q Q Q) (TN (bG [0,3,9,10,11,12] (aO Q (aO Q (aO Q (aO Q (aO Q (aO Q .nil)))))) (bL Q) (TQ ?_)))))
 refine TC _ Q (fun hlt=>?_) (fun hlt=>?_)
 ·have hlt : i < xss.length := by simpa using hlt
  obtain⟨x,hx⟩:∃ x,(xss)[i]?=some x:=⟨_,List.getElem?_eq_getElem (by first|exact hlt|omega|(simp;omega))⟩
  have hs:=iU hx
  have hle:=gA xss (i+1)
  refine TS (WT (bG [0,3,9,10,11] (aO Q (aO Q (aO Q (aO Q (aO Q .nil))))) (bL Q) (TQ (TB (RS (cQ _ Q (uQ Q yX Q Q (qBK hx)) (cQ _ Q (yF Q zBV Q Q) (cQ _ Q (gW (.inr Q) Q) ?_))))))))
  refine TN (bG [0,3,5,9,10,11] (aO Q (aO Q (aO Q (aO Q (aO Q (aO Q .nil)))))) (bL Q) (RS (cQ _ Q (gW (.inl Q) Q) (cQ _ Q (gW (.inl Q) Q) ?_))))
  refine cQ _ Q (by first|exact qDJ Q wJ Q (by first|exact List.length_map _|rfl)|exact oA Q wJ Q) ?_
  refine cQ _ Q (sG (r:=((iC xss (i+1)).length:Int)) Q Q Q Q (by rw [hs];simp) (by omega)) ?_
  refine cQ _ Q (gW (.inr Q) Q) (TN (bG [0,3,9,10,11] (aO Q (aO Q (aO Q (aO Q (aO Q .nil))))) (bL Q) (RS (cQ _ Q (gW (.inl Q) Q) (cQ _ Q (oC Q Q Q Q) (TN (bG [0,3,9,10,11,20] (aO Q (aO Q (aO Q (aO Q (aO Q (aO Q .nil)))))) (bL Q) ?_)))))))
  refine TC _ Q (fun hneg=>?_) (fun hneg=>?_)
  ·exact absurd (of_decide_eq_true hneg) (by omega)
  ·refine TS (WK (WT (bG [0,3,9,10,11] (aO Q (aO Q (aO Q (aO Q (aO Q .nil))))) (bL Q) (TG ?_))))
   refine cQ _ Q (sH Q Q Q Q (by first|omega|(constructor<;>omega))) ?_
   refine cQ _ Q (gW (.inl Q) Q) (TN (WT ?_))
   exact⟨(i+1),[],by decide,(fun i hi=>absurd hi (Nat.not_lt_zero i)),(by omega),(by omega),Q⟩
 ·have hge : ¬ i < xss.length := by simpa using hlt
  have hi:i=xss.length:=by omega
  refine aJ (WX (WX (WH (WT (bG [0,3] (aO Q (aO Q .nil)) (bL Q) (RS (cQ _ Q (gW (.inl Q) Q) ?_)))))))
  refine xR Q Q Q (tU _ (by have:=gA xss i;omega) (fun _=>false)) Q Q ?_
  refine cQ _ Q (jW (.inr Q) Q) (TN (bG [0,6] (aO Q (fI Q .nil)) (eA Q (bL Q)) (TQ (RS (cQ _ Q (gW (.inl Q) Q) ?_)))))
  refine cQ _ Q (by first|exact qDJ Q yX Q (by first|exact List.length_map _|rfl)|exact oA Q yX Q) ?_
  refine cQ _ Q (gW (.inl Q) Q) (TN (bG [6,25,26,27] (fI Q (aO Q (aO Q (aO Q .nil)))) (eA Q (bL Q)) (TB ?_)))
  refine pP (fun i=>([(6,.msl 0 1 0 (iC xss i).length),(27,.d (.int .i64 ((i:Nat):Int)))]:Fr)) (fun i=>([(0,.flat 3 1 ((iC xss i).map (D.int .i64)))]:List (Nat×Blk))) (fun i=>i≤xss.length) (fun i=>xss.length - i) [6,27] [25,26] [0] 0 (by decide) (fun i hi=>absurd hi (Nat.not_lt_zero i)) (Nat.zero_le _) (aO Q (aO Q .nil)) Q (by rw [pL];rfl) (eA Q (bL Q)) (by rw [pL];rfl) ?_
  rintro i hok
  refine bG [6,27,25,26] (fI Q (aO Q (aO Q (aO Q .nil)))) (eA Q (bL Q)) (RS (cQ _ Q (oC Q Q Q Q) (TN (bG [6,25,26,27,28] (fI Q (aO Q (aO Q (aO Q (aO Q .nil))))) (eA Q (bL Q)) (TQ ?_)))))
  refine TC _ Q (fun hlt=>?_) (fun hlt=>?_)
  ·have hlt : i < xss.length := by simpa using hlt
   obtain⟨x,hx⟩:∃ x,(xss)[i]?=some x:=⟨_,List.getElem?_eq_getElem (by first|exact hlt|omega|(simp;omega))⟩
   have hs:=iU hx
   have hle:=gA xss (i+1)
   have hsl:(iC xss (i+1)).length=(iC xss i).length+x.length:=by rw [hs];simp
   refine TS (WT (bG [6,25,26,27] (fI Q (aO Q (aO Q (aO Q .nil)))) (eA Q (bL Q)) (TQ (TB (RS (cQ _ Q (uQ Q yX Q Q (qBK hx)) (cQ _ Q (yF Q zBV Q Q) (cQ _ Q (gW (.inr Q) Q) ?_))))))))
   refine TN (bG [6,8,25,26,27] (fI Q (aO Q (aO Q (aO Q (aO Q .nil))))) (eA Q (bL Q)) (TG (cQ _ Q (jW (.inl Q) Q) (cQ _ Q (gW (.inl Q) Q) ?_))))
   refine qCD (m:=(iC xss (i+1)).length) (ds:=x.map (D.int .i64)) (es':=(iC xss (i+1)).map (D.int .i64)) Q wJ lI Q Q Q (by simp) (fun h=>absurd h (Nat.not_lt_zero _)) Q ⟨Q,(by first|rfl|(simp [List.map_take,List.map_drop];done)|(rw [← List.map_drop,List.take_of_length_le (by simp)]))⟩ (by rw [hs];simp) (by simp;omega) (by omega) (by omega) Q Q ?_
   refine cQ _ Q (jW (.inr Q) Q) (TN (WK (WT (bG [6,25,26,27] (fI Q (aO Q (aO Q (aO Q .nil)))) (eA Q (bL Q)) (TG ?_)))))
   refine cQ _ Q (sH Q Q Q Q (by first|omega|(constructor<;>omega))) ?_
   refine cQ _ Q (gW (.inl Q) Q) (TN (WT ?_))
   exact⟨(i+1),[0],by decide,(fun i hi=>absurd hi (Nat.not_lt_zero i)),(by omega),(by omega),Q⟩
  ·have hge : ¬ i < xss.length := by simpa using hlt
   have hi:i=xss.length:=by omega
   have hall:=qJZ hge
   refine aJ (WX (WX (WH (WT (bG [6] (fI Q .nil) (eA Q (bL Q)) (RS (cQ _ Q (jW (.inl Q) Q) (cQ _ Q (jW (.inr Q) Q) ?_))))))))
   refine TN (bG [2] (fI Q .nil) (eA Q (bL Q)) (TR ?_))
   rw [hall]
   exact⟨_,[0],res Q,by decide,fun i hi=>absurd hi (Nat.not_lt_zero i),Q,Q⟩

theorem lM {p0:List (List Int)} {r:List Int} (hm:hU p0=some r):RetN Tryz.prog 91 [.sl 1 (p0.map (fun l=>D.sl 1 (l.map (D.int .i64))))] (.sl 1 (r.map (D.int .i64))):=by
 unfold hU at hm
 obtain⟨g,hm⟩:=GI hm
 obtain rfl:=OJ hm
 exact .flat (rN p0 g.1 g.2 (fun _=>false)) (by rw [List.length_map]) (fun e he=>by obtain⟨x,_,rfl⟩:=List.mem_map.1 he;rfl)

theorem wZ {p0:Table} {p1:Route} {r:Bool} (hm:iT p0 p1=some r):RetN Tryz.prog 119 [p0.enc,p1.enc] (.bool (r)):=by
 refine .unit (aQ qUS Tryz.func119 Q Tryz.ntmps119 Q Q (fun wX gX=>?_)) Q
 unfold iT at hm
 refine WN [0,1] Q Q (RS (eR 0 Q Q Q (eR 1 Q Q Q (SA TK Q (TN (WN [2,3] Q Q (TQ ?_)))))))
 refine aK hm (fun x1=>([(26,.d (.bool (x1)))]:Fr)) (fun x1=>([]:List (Nat×Blk))) [26] [2,3] Q (fun z2 hm=>?_) (fun x1 hm=>?_)
 ·refine TG ?_
  iterate 4 (refine SA TK Q ?_)
  obtain⟨r3,hr3,hm⟩:=BI hm
  refine SX Q Q (RN Q Q (SC (.d _) (SC (.d _) SN)) (gZ hr3)) (SA TK Q (SB TK Q (fun q4 hq4=>?_)))
  cases q4
  ·replace hm:=JB hq4 hm
   refine SA TK Q (SA TK Q (SA TK Q (SB TK Q (fun q5 hq5=>?_))))
   cases q5
   ·replace hm:=eU hq5 hm
    iterate 8 (refine SA TK Q ?_)
    refine TN (WT ?_)
    exact⟨_,[0,1],(SJ hm),Q,k0,Q⟩
   ·replace hm:=eT hq5 hm
    iterate 4 (refine SA TK Q ?_)
    obtain⟨r6,hr6,hm⟩:=BI hm
    refine SX Q Q (RN Q Q (SC (.d _) (SC (.d _) SN)) (gZ hr6)) (SA TK Q (SA TK Q (SA TK Q (TN (WT ?_)))))
    exact⟨_,[0,1],(SJ hm),Q,k0,Q⟩
  ·replace hm:=JA hq4 hm
   iterate 12 (refine SA TK Q ?_)
   refine TN (WT ?_)
   exact⟨_,[0,1],(SJ hm),Q,k0,Q⟩
 ·refine WN [2,3,26] Q Q ?_
  refine TC _ Q (fun h7=>?_) (fun h7=>?_)
  ·replace hm:=JA h7 hm
   refine RS (SA TK Q (TN (WN [4] Q Q (TR (WR ?_)))))
   obtain rfl:=OJ hm
   exact EndsS.one _ Q (.d _) (.refl _)
  ·replace hm:=JB h7 hm
   refine TS (WT (WN [2,3] Q Q (TQ ?_)))
   refine kQ [(42,.d (.bool (((decide ((p1.path.length:Int) < (1:Int)))||((decide ((12:Int) < (p1.path.length:Int)))||(decide ((p1.sections.length:Int)=(0:Int))))))))] [42] [2,3] Q ?_ ?_
   ·refine TG (SA TK Q (SA TK Q (SX Q Q (aT TK Q Q Q) (SA TK Q (SB TK Q (fun q8 hq8 => ?_))))))
    cases q8
    ·refine SA TK Q (SA TK Q (SX Q Q (aT TK Q Q Q) (SA TK Q (SA TK Q (SB TK Q (fun q9 hq9 => ?_))))))
     cases q9
     ·refine SA TK Q (SA TK Q (SX Q Q (aT TK Q Q Q) (SA TK Q (SA TK Q (TN (WT ?_))))))
      exact⟨[0,1],Q,k0,dZ (bS (bT (by simp [hq8,hq9])) Q) Q⟩
     ·iterate 5 (refine SA TK Q ?_)
      refine TN (WT ?_)
      exact⟨[0,1],Q,k0,dZ (bS (bT (by simp [hq8,hq9])) Q) Q⟩
    ·iterate 11 (refine SA TK Q ?_)
     refine TN (WT ?_)
     exact⟨[0,1],Q,k0,dZ (bS (bT (by simp [hq8])) Q) Q⟩
   ·refine WN [2,3,42] Q Q ?_
    refine TC _ Q (fun h10=>?_) (fun h10=>?_)
    ·replace hm:=JA h10 hm
     refine RS (SA TK Q (TN (WN [4] Q Q (TR (WR ?_)))))
     obtain rfl:=OJ hm
     exact EndsS.one _ Q (.d _) (.refl _)
    ·replace hm:=JB h10 hm
     refine TS (WT (WN [2,3] Q Q (RS (s_ala (f:=D.bool) (x:=false) 2 23 Q Q qWB Q Q Q (TN (WN [2,3,5] Q Q ?_))))))
     refine dI hm (fun b11=>([]:Fr)) (fun b11=>([(2,.flat 175 1 (b11.map D.bool))]:List (Nat×Blk))) [] [2,3] Q (fun z12 hm hz12=>?_) (fun b11 hm=>?_)
     ·refine RS ?_
      iterate 4 (refine SA TK Q ?_)
      refine SX Q Q (dW [.tmp 44,.tmp 46] TK Q Q qGF Q Q Q Q Q) ?_
      obtain⟨r13,hr13,hm⟩:=BI hm
      refine SX Q Q (RN Q Q (SC (.d _) SN) (lM hr13)) (SX Q Q (aT TK Q Q Q) (SA TK Q (TN (WN [2,3,5,48,49,50] Q Q (TB (aZ hm (fun (x17,b18)=>([(50,.d (.int .i64 x17))]:Fr)) (fun (x17,b18)=>([(2,.flat 175 1 (b18.map D.bool))]:List (Nat×Blk))) [50] [2,3,5,48,49] [0,1,2] Q k0 Q Q Q Q Q (fun s z19 hm hz19=>?_)))))))
      obtain⟨x17,b18⟩:=s
      refine WN [2,3,5,48,49,50] Q Q (RS (SA TK Q (TN (WN [2,3,5,48,49,50,51] Q Q (TQ ?_)))))
      refine TC _ Q (fun h20=>?_) (fun h20=>?_)
      ·replace hm:=JT h20 hm
       refine TS (WT (WN [2,3,5,48,49,50] Q Q (TQ (TB (RS ?_)))))
       obtain⟨e21,he21,hm⟩:=GV hm
       refine SX Q Q (bZ TK Q Q Q Q he21) (SA TK Q (SA TK Q (TN (WN [2,3,5,7,48,49,50] Q Q (TQ ?_)))))
       refine aK hm (fun x22=>([(63,.d (.bool (x22)))]:Fr)) (fun x22=>([]:List (Nat×Blk))) [63] [2,3,5,7,48,49,50] Q (fun z23 hm=>?_) (fun x22 hm=>?_)
       ·refine TG (SA TK Q (SA TK Q (SA TK Q ?_)))
        obtain⟨r24,hr24,hm⟩:=BI hm
        refine SX Q Q (RN Q Q (SC (.d _) (SC (.d _) SN)) (gZ hr24)) (SA TK Q (SB TK Q (fun q25 hq25=>?_)))
        cases q25
        ·replace hm:=JB hq25 hm
         refine SA TK Q ?_
         obtain⟨g27,hm⟩:=GI hm
         obtain⟨e26,he26,hm⟩:=GV hm
         refine SX Q Q (zBF Q qOW Q Q he26 g27) (SX Q Q (wF TK Q Q Q Q he26.2 Q) (SA TK Q (TN (WT ?_))))
         exact⟨_,[0,1,2],(SJ hm),Q,k0,Q⟩
        ·replace hm:=JA hq25 hm
         iterate 4 (refine SA TK Q ?_)
         refine TN (WT ?_)
         exact⟨_,[0,1,2],(SJ hm),Q,k0,Q⟩
       ·refine WN [2,3,5,7,48,49,50,63] Q Q ?_
        refine TC _ Q (fun h28=>?_) (fun h28=>?_)
        ·replace hm:=JA h28 hm
         refine RS (SA TK Q (TN (WN [4] Q Q (TR (WR (WB (WR ?_)))))))
         obtain⟨v29,hm,hz⟩:=II hm
         rw [hz19 _ hz] at hm
         refine WR (WB ?_)
         obtain⟨v30,hm,hz⟩:=II hm
         rw [hz12 _ hz] at hm
         refine WR ?_
         obtain rfl:=OJ hm
         exact EndsS.one _ Q (.d _) (.refl _)
        ·replace hm:=JB h28 hm
         refine TS (WT (WN [2,3,5,7,48,49,50] Q Q (TG (SA TK Q ?_))))
         obtain⟨g32,hm⟩:=GI hm
         obtain⟨e31,he31,hm⟩:=GV hm
         refine SX Q Q (zBF Q qOW Q Q he31 g32) (qCC (x':=true) TK Q Q Q Q Q he31.2 Q Q Q (TN (WK (WT (WN [2,3,5,48,49,50] Q Q (TG ?_))))))
         obtain⟨g33,hm⟩:=GI hm
         refine SX Q Q (aV Q Q Q Q g33) (SA TK Q (TN (WT ?_)))
         exact⟨_,[0,1,2],(SJ hm),Q,k0,Q⟩
      ·replace hm:=JF h20 hm
       refine aJ (WX ?_)
       obtain⟨v34,hm,hz⟩:=II hm
       rw [hz19 _ hz] at hm
       refine WX (WH (WT ?_))
       exact⟨_,[0,1,2],(SJ hm),Q,k0,Q⟩
     ·refine WN [2,3] Q Q ?_
      refine aK hm (fun x35=>([(4,.d (.bool (x35)))]:Fr)) (fun x35=>([]:List (Nat×Blk))) [4] [] Q (fun z36 hm=>?_) (fun x35 hm=>?_)
      ·refine TG ?_
       iterate 4 (refine SA TK Q ?_)
       obtain⟨r37,hr37,hm⟩:=BI hm
       refine SX Q Q (RN Q Q (SC (.d _) (SC (.d _) SN)) (gZ hr37)) (SB TK Q (fun q38 hq38=>?_))
       cases q38
       ·replace hm:=JB hq38 hm
        iterate 5 (refine SA TK Q ?_)
        refine TN (WT ?_)
        exact⟨_,[0,1,2],(SJ hm),Q,k0,Q⟩
       ·replace hm:=JA hq38 hm
        iterate 5 (refine SA TK Q ?_)
        refine TN (WT ?_)
        exact⟨_,[0,1,2],(SJ hm),Q,k0,Q⟩
      ·refine WN [4] Q Q (TR ?_)
       obtain rfl:=OJ hm
       exact EndsS.one _ Q (.d _) (.refl _)

theorem iX {p0:(List Int)} {p1:Int} {r:Int} (hm:dV p0 p1=some r):RetN Tryz.prog 122 [.sl 1 (p0.map (D.int .i64)),.int .i64 p1] (.int .i64 r):=by
 refine .unit (aQ qUP Tryz.func122 Q Tryz.ntmps122 Q Q (fun wX gX=>?_)) Q
 unfold dV at hm
 refine WN [0,1] Q Q (RS (SA TK Q (TN (WN [0,1] Q Q ?_))))
 refine dI hm (fun _=>([]:Fr)) (fun _=>([]:List (Nat×Blk))) [] [] Q (fun z1 hm hz1=>?_) (fun j hm=>?_)
 ·refine RS (SA TK Q (SX Q Q (aT TK Q Q Q) (SA TK Q (TN (WN [0, 1, 7, 8] Q Q (TB (aZ hm (fun x3 => ([(8, .d (.int .i64 x3))] : Fr)) (fun x3 => ([] : List (Nat × Blk))) [8] [0, 1, 7] [] Q k0 Q Q Q Q Q (fun x3 z4 hm hz4 => (WN [0, 1, 7, 8] Q Q ?_)))))))))
  refine RS (SA TK Q (TN (WN [0,1,7,8,9] Q Q (TQ ?_))))
  refine TC _ Q (fun h5=>?_) (fun h5=>?_)
  ·replace hm:=JT h5 hm
   refine TS (WT (WN [0,1,7,8] Q Q (TQ (TB (RS (SA TK Q (SA TK Q (TN (WN [0,1,5,7,8] Q Q ?_)))))))))
   refine RS (SA TK Q (SA TK Q (SA TK Q ?_)))
   obtain⟨e6,he6,hm⟩:=GV hm
   refine SX Q Q (bZ TK Q Q Q Q he6) (SA TK Q (SA TK Q (TN (WN [0,1,5,7,8,16] Q Q ?_))))
   refine TC _ Q (fun h7=>?_) (fun h7=>?_)
   ·replace hm:=JT h7 hm
    refine RS (SA TK Q (SA TK Q (TN (WN [4] Q Q (TR (WB (WR ?_)))))))
    obtain⟨v8,hm,hz⟩:=II hm
    rw [hz4 _ hz] at hm
    refine WR (WB ?_)
    obtain⟨v9,hm,hz⟩:=II hm
    rw [hz1 _ hz] at hm
    refine WR ?_
    obtain rfl:=OJ hm
    exact EndsS.one _ Q (.d _) (.refl _)
   ·replace hm:=JF h7 hm
    refine TS (WK (WT (WN [0,1,7,8] Q Q (TG ?_))))
    obtain⟨g10,hm⟩:=GI hm
    refine SX Q Q (aV Q Q Q Q g10) (SA TK Q (TN (WT ?_)))
    exact⟨_,[],(SJ hm),Q,k0,Q⟩
  ·replace hm:=JF h5 hm
   refine aJ (WX ?_)
   obtain⟨v11,hm,hz⟩:=II hm
   rw [hz4 _ hz] at hm
   refine WX (WH (WT ?_))
   exact⟨_,[],(SJ hm),Q,k0,Q⟩
 ·refine WN [] Q Q (RS (SA TK Q (TN (WN [4] Q Q (TR ?_)))))
  obtain rfl:=OJ hm
  exact EndsS.one _ Q (.d _) (.refl _)

theorem lQ {p0:Table} {p1:Int} {r:Int} (hm:iP p0 p1=some r):RetN Tryz.prog 95 [p0.enc,.int .i64 p1] (.int .i64 r):=by
 refine .unit (aQ qYA Tryz.func95 Q Tryz.ntmps95 Q Q (fun wX gX=>?_)) Q
 unfold iP at hm
 refine WN [0,1] Q Q (RS (eR 0 Q Q Q (SA TK Q (TN (WN [1,2] Q Q (RS (SA TK Q (SA TK Q (SA TK Q ?_)))))))))
 obtain⟨r1,hr1,hm⟩:=BI hm
 refine SX Q Q (RN Q Q (SC (.d _) (SC (.d _) SN)) (iX hr1)) (SA TK Q (TN (WN [4] Q Q (TR ?_))))
 obtain rfl:=OJ hm
 exact EndsS.one _ Q (.d _) (.refl _)

theorem kJ {p0:Table} {p1:(List Setting)} {r:Bool} (hm:dT p0 p1=some r):RetN Tryz.prog 120 [p0.enc,.sl 2 (p1.map Setting.enc)] (.bool (r)):=by
 refine .unit (aQ qUR Tryz.func120 Q Tryz.ntmps120 Q Q (fun wX gX=>?_)) Q
 unfold dT at hm
 refine WN [0,1] Q Q (RS (eR 0 Q Q Q (SA TK Q (TN (WN [1,2] Q Q ?_)))))
 refine dI hm (fun _=>([]:Fr)) (fun _=>([]:List (Nat×Blk))) [] [] Q (fun z1 hm hz1=>?_) (fun j hm=>?_)
 ·refine RS (SA TK Q (SX Q Q (aT TK Q Q Q) (SA TK Q (TN (WN [1, 2, 7, 8, 9] Q Q (TB (aZ hm (fun x3 => ([(9, .d (.int .i64 x3))] : Fr)) (fun x3 => ([] : List (Nat × Blk))) [9] [1, 2, 7, 8] [0] Q k0 Q Q Q Q Q (fun x3 z4 hm hz4 => (WN [1, 2, 7, 8, 9] Q Q ?_)))))))))
  refine RS (SA TK Q (TN (WN [1,2,7,8,9,10] Q Q (TQ ?_))))
  refine TC _ Q (fun h5=>?_) (fun h5=>?_)
  ·replace hm:=JT h5 hm
   refine TS (WT (WN [1,2,7,8,9] Q Q (TQ (TB (RS (SA TK Q ?_))))))
   obtain⟨e6,he6,hm⟩:=GV hm
   refine SX Q Q (bZ TK Q Q Q Q he6) (SA TK Q (dA 1 Q Q fU Q (SA TK Q (SA TK Q (TN (WN [1,2,5,6,7,8,9] Q Q (TQ ?_)))))))
   refine aK hm (fun x7=>([(33,.d (.bool (x7)))]:Fr)) (fun x7=>([]:List (Nat×Blk))) [33] [1,2,6,7,8,9] Q (fun z8 hm=>?_) (fun x7 hm=>?_)
   ·refine cN follows  ?_
    iterate 2 (refine DA [0,1] TK Q ?_)
    refine d_b [0,1] TK Q (fun q9 hq9=>?_)
    cases q9
    ·replace hm:=JF hq9 hm
     iterate 14 (refine DA [0,1] TK Q ?_)
     obtain⟨r10,hr10,hm⟩:=BI hm
     refine DX [0,1] Q Q (RN Q Q (SC (.d _) (SC (.d _) SN)) (lQ hr10)) ?_
     iterate 2 (refine DA [0,1] TK Q ?_)
     refine DT ?_ (by kernel_rfl)
     refine TN (WT ?_)
     exact⟨_,[0,1],(SJ hm),Q,k0,Q⟩
    ·replace hm:=JT hq9 hm
     iterate 4 (refine DA [0,1] TK Q ?_)
     obtain⟨g11,hm⟩:=GI hm
     refine DX [0,1] Q Q (aV Q Q Q Q g11) ?_
     obtain⟨e12,he12,hm⟩:=GV hm
     refine DX [0,1] Q Q (bZ TK Q Q Q Q he12) ?_
     iterate 4 (refine DA [0,1] TK Q ?_)
     refine d_b [0,1] TK Q (fun q13 hq13=>?_)
     cases q13
     ·replace hm:=JF hq13 hm
      iterate 3 (refine DA [0,1] TK Q ?_)
      obtain⟨r14,hr14,hm⟩:=BI hm
      refine DX [0,1] Q Q (RN Q Q (SC (.d _) (SC (.d _) SN)) (lQ hr14)) ?_
      iterate 2 (refine DA [0,1] TK Q ?_)
      refine DT ?_ (by kernel_rfl)
      refine TN (WT ?_)
      exact⟨_,[0,1],(SJ hm),Q,k0,Q⟩
     ·replace hm:=JT hq13 hm
      iterate 6 (refine DA [0,1] TK Q ?_)
      refine DT ?_ (by kernel_rfl)
      refine TN (WT ?_)
      exact⟨_,[0,1],(SJ hm),Q,k0,Q⟩
   ·refine WN [1,2,6,7,8,9,33] Q Q ?_
    refine TC _ Q (fun h15=>?_) (fun h15=>?_)
    ·replace hm:=JA h15 hm
     refine RS (SA TK Q (TN (WN [4] Q Q (TR (WR (WB (WR ?_)))))))
     obtain⟨v16,hm,hz⟩:=II hm
     rw [hz4 _ hz] at hm
     refine WR (WB ?_)
     obtain⟨v17,hm,hz⟩:=II hm
     rw [hz1 _ hz] at hm
     refine WR ?_
     obtain rfl:=OJ hm
     exact EndsS.one _ Q (.d _) (.refl _)
    ·replace hm:=JB h15 hm
     refine TS (WT (WN [1,2,6,7,8,9] Q Q ?_))
     refine kQ [(41,.d (.bool (((!(decide (e6.pos=(1:Int))))&&(!(decide (e6.pos=(2:Int))))))))] [41] [1,2,7,8,9] Q ?_ ?_
     ·refine TG (SA TK Q (SA TK Q (SA TK Q (SB TK Q (fun q18 hq18 => ?_)))))
      cases q18
      ·iterate 4 (refine SA TK Q ?_)
       refine TN (WT ?_)
       exact⟨[0,1],Q,k0,dZ (bS (bT (by simp [hq18])) Q) Q⟩
      ·iterate 4 (refine SA TK Q ?_)
       refine TN (WT ?_)
       exact⟨[0,1],Q,k0,dZ (bS (bT (by simp [hq18])) Q) Q⟩
     ·refine WN [1,2,7,8,9,41] Q Q ?_
      refine TC _ Q (fun h19=>?_) (fun h19=>?_)
      ·replace hm:=JA h19 hm
       refine RS (SA TK Q (TN (WN [4] Q Q (TR (WB (WR ?_))))))
       obtain⟨v20,hm,hz⟩:=II hm
       rw [hz4 _ hz] at hm
       refine WR (WB ?_)
       obtain⟨v21,hm,hz⟩:=II hm
       rw [hz1 _ hz] at hm
       refine WR ?_
       obtain rfl:=OJ hm
       exact EndsS.one _ Q (.d _) (.refl _)
      ·replace hm:=JB h19 hm
       refine TS (WK (WT (WN [1,2,7,8,9] Q Q (TG ?_))))
       obtain⟨g22,hm⟩:=GI hm
       refine SX Q Q (aV Q Q Q Q g22) (SA TK Q (TN (WT ?_)))
       exact⟨_,[0],(SJ hm),Q,k0,Q⟩
  ·replace hm:=JF h5 hm
   refine aJ (WX ?_)
   obtain⟨v23,hm,hz⟩:=II hm
   rw [hz4 _ hz] at hm
   refine WX (WH (WT ?_))
   exact⟨_,[0],(SJ hm),Q,k0,Q⟩
 ·refine WN [] Q Q (RS (SA TK Q (TN (WN [4] Q Q (TR ?_)))))
  obtain rfl:=OJ hm
  exact EndsS.one _ Q (.d _) (.refl _)

theorem nP {p0:(List Setting)} {p1:(List Setting)} {r:Bool} (hm:fS p0 p1=some r):RetN Tryz.prog 121 [.sl 2 (p0.map Setting.enc),.sl 2 (p1.map Setting.enc)] (.bool (r)):=by
 refine .unit (aQ qUQ Tryz.func121 Q Tryz.ntmps121 Q Q (fun wX gX=>?_)) Q
 unfold fS at hm
 refine WN [0,1] Q Q (RS (SA TK Q (TN (WN [0,1] Q Q ?_))))
 refine dI hm (fun _=>([]:Fr)) (fun _=>([]:List (Nat×Blk))) [] [] Q (fun z1 hm hz1=>?_) (fun j hm=>?_)
 ·refine RS (SA TK Q (SX Q Q (aT TK Q Q Q) (SA TK Q (TN (WN [1, 9, 10, 11] Q Q (TB (aZ hm (fun x3 => ([(11, .d (.int .i64 x3))] : Fr)) (fun x3 => ([] : List (Nat × Blk))) [11] [1, 9, 10] [] Q k0 Q Q Q Q Q (fun x3 z4 hm hz4 => (WN [1, 9, 10, 11] Q Q ?_)))))))))
  refine RS (SA TK Q (TN (WN [1,9,10,11,12] Q Q (TQ ?_))))
  refine TC _ Q (fun h5=>?_) (fun h5=>?_)
  ·replace hm:=JT h5 hm
   refine TS (WT (WN [1,9,10,11] Q Q ?_))
   refine dI hm (fun _=>([]:Fr)) (fun _=>([]:List (Nat×Blk))) [] [1,9,10,11] Q (fun z6 hm hz6=>?_) (fun j hm=>?_)
   ·refine TB (RS ?_)
    obtain⟨e7,he7,hm⟩:=GV hm
    refine SX Q Q (bZ TK Q Q Q Q he7) (SA TK Q (dA 0 Q Q fU Q (SA TK Q (TN (WN [1,6,9,10,11] Q Q (RS (SA TK Q (SX Q Q (aT TK Q Q Q) ?_))))))))
    refine SA TK Q (TN (WN [1,6,9,10,11,15,16,17] Q Q (TB (aZ hm (fun x9=>([(17,.d (.int .i64 x9))]:Fr)) (fun x9=>([]:List (Nat×Blk))) [17] [1,6,9,10,11,15,16] [0] Q k0 Q Q Q Q Q (fun x9 z10 hm hz10=>(WN [1,6,9,10,11,15,16,17] Q Q (RS (SA TK Q (TN ?_)))))))))
    refine WN [1,6,9,10,11,15,16,17,18] Q Q (TQ ?_)
    refine TC _ Q (fun h11=>?_) (fun h11=>?_)
    ·replace hm:=JT h11 hm
     refine TS (WT (WN [1,6,9,10,11,15,16,17] Q Q (TQ (TB (RS ?_)))))
     obtain⟨e12,he12,hm⟩:=GV hm
     refine SX Q Q (bZ TK Q Q Q Q he12) (SA TK Q (dA 1 Q Q fU Q (SA TK Q (TN (WN [1,6,8,9,10,11,15,16,17] Q Q ?_)))))
     refine kQ [(32,.d (.bool (((decide (e7.el=e12.el))&&(!(decide (e7.pos=e12.pos)))))))] [32] [1,6,9,10,11,15,16,17] Q ?_ ?_
     ·refine TG ?_
      iterate 5 (refine SA TK Q ?_)
      refine SB TK Q (fun q13 hq13=>?_)
      cases q13
      ·iterate 6 (refine SA TK Q ?_)
       refine TN (WT ?_)
       exact⟨[0,1],Q,k0,dZ (bS (bT (by simp [hq13])) Q) Q⟩
      ·iterate 6 (refine SA TK Q ?_)
       refine TN (WT ?_)
       exact⟨[0,1],Q,k0,dZ (bS (bT (by simp [hq13])) Q) Q⟩
     ·refine WN [1,6,9,10,11,15,16,17,32] Q Q ?_
      refine TC _ Q (fun h14=>?_) (fun h14=>?_)
      ·replace hm:=JA h14 hm
       refine RS (SA TK Q (TN (WN [4] Q Q (TR (WB (WR ?_))))))
       obtain⟨v15,hm,hz⟩:=II hm
       rw [hz10 _ hz] at hm
       refine WR (WB (WB ?_))
       obtain⟨v16,hm,hz⟩:=II hm
       rw [hz6 _ hz] at hm
       refine WR ?_
       obtain⟨v17,hm,hz⟩:=II hm
       rw [hz4 _ hz] at hm
       refine WR (WB ?_)
       obtain⟨v18,hm,hz⟩:=II hm
       rw [hz1 _ hz] at hm
       refine WR ?_
       obtain rfl:=OJ hm
       exact EndsS.one _ Q (.d _) (.refl _)
      ·replace hm:=JB h14 hm
       refine TS (WK (WT (WN [1,6,9,10,11,15,16,17] Q Q (TG ?_))))
       obtain⟨g19,hm⟩:=GI hm
       refine SX Q Q (aV Q Q Q Q g19) (SA TK Q (TN (WT ?_)))
       exact⟨_,[0],(SJ hm),Q,k0,Q⟩
    ·replace hm:=JF h11 hm
     refine aJ (WX ?_)
     obtain⟨v20,hm,hz⟩:=II hm
     rw [hz10 _ hz] at hm
     refine WX (WH (WK (WT ?_)))
     exact⟨_,[],(SJ hm),Q,k0,Q⟩
   ·refine WN [1,9,10,11] Q Q (TG ?_)
    obtain⟨g21,hm⟩:=GI hm
    refine SX Q Q (aV Q Q Q Q g21) (SA TK Q (TN (WT ?_)))
    exact⟨_,[],(SJ hm),Q,k0,Q⟩
  ·replace hm:=JF h5 hm
   refine aJ (WX ?_)
   obtain⟨v22,hm,hz⟩:=II hm
   rw [hz4 _ hz] at hm
   refine WX (WH (WT ?_))
   exact⟨_,[],(SJ hm),Q,k0,Q⟩
 ·refine WN [] Q Q (RS (SA TK Q (TN (WN [4] Q Q (TR ?_)))))
  obtain rfl:=OJ hm
  exact EndsS.one _ Q (.d _) (.refl _)

theorem rB {p0:Table} {r:Int} (hm:kR p0=some r):RetN Tryz.prog 54 [p0.enc] (.int .i64 r):=by
 refine .unit (aQ qZI Tryz.func54 Q Tryz.ntmps54 Q Q (fun wX gX=>?_)) Q
 unfold kR at hm
 refine WN [0] Q Q (RS (eR 0 Q Q Q (SA TK Q (TN (WN [1] Q Q (TQ ?_))))))
 refine aK hm (fun x1=>([(33,.d (.bool (x1)))]:Fr)) (fun x1=>([]:List (Nat×Blk))) [33] [1] Q (fun z2 hm=>?_) (fun x1 hm=>?_)
 ·refine TG (SA TK Q (SA TK Q (SX Q Q (aT TK Q Q Q) (SA TK Q (SB TK Q (fun q3 hq3 => ?_))))))
  cases q3
  ·replace hm:=JF hq3 hm
   refine SA TK Q (SA TK Q (SX Q Q (aT TK Q Q Q) (SA TK Q (SA TK Q (SB TK Q (fun q4 hq4=>?_))))))
   cases q4
   ·replace hm:=JF hq4 hm
    refine SA TK Q (SA TK Q ?_)
    obtain⟨r5,hr5,hm⟩:=BI hm
    refine SX Q Q (RN Q Q (SC (.d _) (SC (.d _) SN)) (gZ hr5)) (SA TK Q (SA TK Q (SB TK Q (fun q6 hq6=>?_))))
    cases q6
    ·replace hm:=JB hq6 hm
     refine SA TK Q (SA TK Q ?_)
     obtain⟨r7,hr7,hm⟩:=BI hm
     refine SX Q Q (RN Q Q (SC (.d _) (SC (.d _) SN)) (gZ hr7)) (SA TK Q (SA TK Q (TN (WT ?_))))
     exact⟨_,[0],(SJ hm),Q,k0,Q⟩
    ·replace hm:=JA hq6 hm
     iterate 5 (refine SA TK Q ?_)
     refine TN (WT ?_)
     exact⟨_,[0],(SJ hm),Q,k0,Q⟩
   ·replace hm:=JT hq4 hm
    iterate 11 (refine SA TK Q ?_)
    refine TN (WT ?_)
    exact⟨_,[0],(SJ hm),Q,k0,Q⟩
  ·replace hm:=JT hq3 hm
   iterate 17 (refine SA TK Q ?_)
   refine TN (WT ?_)
   exact⟨_,[0],(SJ hm),Q,k0,Q⟩
 ·refine WN [1,33] Q Q ?_
  refine TC _ Q (fun h8=>?_) (fun h8=>?_)
  ·replace hm:=JA h8 hm
   refine RS (SA TK Q (TN (WN [2] Q Q (TR (WR ?_)))))
   obtain rfl:=OJ hm
   exact EndsS.one _ Q (.d _) (.refl _)
  ·replace hm:=JB h8 hm
   refine TS (WT (WN [1] Q Q (TQ (RS (SA TK Q ?_)))))
   obtain⟨r9,hr9,hm⟩:=BI hm
   refine SX Q Q (RN Q Q (SC (.d _) SN) (vZ hr9)) (SA TK Q (TN (WN [1,36] Q Q ?_)))
   refine TC _ Q (fun h10=>?_) (fun h10=>?_)
   ·replace hm:=JA h10 hm
    refine RS (SA TK Q (TN (WN [2] Q Q (TR (WR ?_)))))
    obtain rfl:=OJ hm
    exact EndsS.one _ Q (.d _) (.refl _)
   ·replace hm:=JB h10 hm
    refine TS (WT (WN [1] Q Q ?_))
    refine dI hm (fun _=>([]:Fr)) (fun _=>([]:List (Nat×Blk))) [] [1] Q (fun z11 hm hz11=>?_) (fun j hm=>?_)
    ·refine RS (SA TK Q (SA TK Q (SX Q Q (aT TK Q Q Q) (SA TK Q (TN (WN [1, 38, 39, 40] Q Q (TB (aZ hm (fun x13 => ([(40, .d (.int .i64 x13))] : Fr)) (fun x13 => ([] : List (Nat × Blk))) [40] [1, 38, 39] [0] Q k0 Q Q Q Q Q (fun x13 z14 hm hz14 => (WN [1, 38, 39, 40] Q Q ?_))))))))))
     refine RS (SA TK Q (TN (WN [1,38,39,40,41] Q Q (TQ ?_))))
     refine TC _ Q (fun h15=>?_) (fun h15=>?_)
     ·replace hm:=JT h15 hm
      refine TS (WT (WN [1,38,39,40] Q Q (TQ (TB (RS ?_)))))
      obtain⟨e16,he16,hm⟩:=GV hm
      refine SX Q Q (bZ TK Q Q Q Q he16) (SA TK Q (dA 1 Q Q iH Q (cO 1 [none,none,none,some 3,some 2,some 1,none,none,some 3,some 2,some 1,some 2,some 1,some 2] Q Q (SA TK Q (TN (WN [1,4,38,39,40] Q Q (RS (SA TK Q (SA TK Q ?_)))))))))
      obtain⟨r17,hr17,hm⟩:=BI hm
      refine SX Q Q (RN Q Q (SC (.d _) (SC (.d _) SN)) (wZ hr17)) (SA TK Q (TN (WN [1,38,39,40,47] Q Q ?_)))
      refine TC _ Q (fun h18=>?_) (fun h18=>?_)
      ·replace hm:=JA h18 hm
       refine RS (SA TK Q (TN (WN [2] Q Q (TR (WB (WR ?_))))))
       obtain⟨v19,hm,hz⟩:=II hm
       rw [hz14 _ hz] at hm
       refine WR (WB ?_)
       obtain⟨v20,hm,hz⟩:=II hm
       rw [hz11 _ hz] at hm
       refine WR ?_
       obtain rfl:=OJ hm
       exact EndsS.one _ Q (.d _) (.refl _)
      ·replace hm:=JB h18 hm
       refine TS (WK (WT (WN [1,38,39,40] Q Q (TG ?_))))
       obtain⟨g21,hm⟩:=GI hm
       refine SX Q Q (aV Q Q Q Q g21) (SA TK Q (TN (WT ?_)))
       exact⟨_,[0],(SJ hm),Q,k0,Q⟩
     ·replace hm:=JF h15 hm
      refine aJ (WX ?_)
      obtain⟨v22,hm,hz⟩:=II hm
      rw [hz14 _ hz] at hm
      refine WX (WH (WT ?_))
      exact⟨_,[0],(SJ hm),Q,k0,Q⟩
    ·refine WN [1] Q Q ?_
     refine dI hm (fun _=>([]:Fr)) (fun _=>([]:List (Nat×Blk))) [] [1] Q (fun z23 hm hz23=>?_) (fun j hm=>?_)
     ·refine RS (SA TK Q (SA TK Q (SX Q Q (aT TK Q Q Q) (SA TK Q (TN (WN [1, 50, 51, 52] Q Q (TB (aZ hm (fun x25 => ([(52, .d (.int .i64 x25))] : Fr)) (fun x25 => ([] : List (Nat × Blk))) [52] [1, 50, 51] [0] Q k0 Q Q Q Q Q (fun x25 z26 hm hz26 => (WN [1, 50, 51, 52] Q Q ?_))))))))))
      refine RS (SA TK Q (TN (WN [1,50,51,52,53] Q Q (TQ ?_))))
      refine TC _ Q (fun h27=>?_) (fun h27=>?_)
      ·replace hm:=JT h27 hm
       refine TS (WT (WN [1,50,51,52] Q Q (TQ (TB (RS ?_)))))
       obtain⟨e28,he28,hm⟩:=GV hm
       refine SX Q Q (bZ TK Q Q Q Q he28) (SA TK Q (dA 1 Q Q iH Q (cO 1 [none,none,none,some 3,some 2,some 1,none,none,some 3,some 2,some 1,some 2,some 1,some 2] Q Q (SA TK Q (TN (WN [1,6,50,51,52] Q Q ?_))))))
       refine aK hm (fun x29=>([(74,.d (.bool (x29)))]:Fr)) (fun x29=>([]:List (Nat×Blk))) [74] [1,50,51,52] Q (fun z30 hm=>?_) (fun x29 hm=>?_)
       ·refine TG (SA TK Q (SA TK Q (SA TK Q ?_)))
        obtain⟨r31,hr31,hm⟩:=BI hm
        refine SX Q Q (RN Q Q (SC (.d _) (SC (.d _) SN)) (kJ hr31)) (SA TK Q (SB TK Q (fun q32 hq32=>?_)))
        cases q32
        ·replace hm:=JB hq32 hm
         refine SA TK Q (SA TK Q (SA TK Q ?_))
         obtain⟨r33,hr33,hm⟩:=BI hm
         refine SX Q Q (RN Q Q (SC (.d _) (SC (.d _) SN)) (kJ hr33)) (SA TK Q (SA TK Q (SB TK Q (fun q34 hq34=>?_))))
         cases q34
         ·replace hm:=JB hq34 hm
          refine SA TK Q (SA TK Q (SA TK Q ?_))
          obtain⟨r35,hr35,hm⟩:=BI hm
          refine SX Q Q (RN Q Q (SC (.d _) (SC (.d _) SN)) (kJ hr35)) (SA TK Q (SA TK Q (TN (WT ?_))))
          exact⟨_,[0,1],(SJ hm),Q,k0,Q⟩
         ·replace hm:=JA hq34 hm
          iterate 6 (refine SA TK Q ?_)
          refine TN (WT ?_)
          exact⟨_,[0,1],(SJ hm),Q,k0,Q⟩
        ·replace hm:=JA hq32 hm
         iterate 13 (refine SA TK Q ?_)
         refine TN (WT ?_)
         exact⟨_,[0,1],(SJ hm),Q,k0,Q⟩
       ·refine WN [1,50,51,52,74] Q Q ?_
        refine TC _ Q (fun h36=>?_) (fun h36=>?_)
        ·replace hm:=JA h36 hm
         refine RS (SA TK Q (TN (WN [2] Q Q (TR (WB (WR ?_))))))
         obtain⟨v37,hm,hz⟩:=II hm
         rw [hz26 _ hz] at hm
         refine WR (WB ?_)
         obtain⟨v38,hm,hz⟩:=II hm
         rw [hz23 _ hz] at hm
         refine WR ?_
         obtain rfl:=OJ hm
         exact EndsS.one _ Q (.d _) (.refl _)
        ·replace hm:=JB h36 hm
         refine TS (WK (WT (WN [1,50,51,52] Q Q (TG ?_))))
         obtain⟨g39,hm⟩:=GI hm
         refine SX Q Q (aV Q Q Q Q g39) (SA TK Q (TN (WT ?_)))
         exact⟨_,[0],(SJ hm),Q,k0,Q⟩
      ·replace hm:=JF h27 hm
       refine aJ (WX ?_)
       obtain⟨v40,hm,hz⟩:=II hm
       rw [hz26 _ hz] at hm
       refine WX (WH (WT ?_))
       exact⟨_,[0],(SJ hm),Q,k0,Q⟩
     ·refine WN [1] Q Q ?_
      refine dI hm (fun _=>([]:Fr)) (fun _=>([]:List (Nat×Blk))) [] [1] Q (fun z41 hm hz41=>?_) (fun j hm=>?_)
      ·refine RS (SA TK Q (SA TK Q (SX Q Q (aT TK Q Q Q) (SA TK Q (TN (WN [1, 77, 78, 79] Q Q (TB (aZ hm (fun x43 => ([(79, .d (.int .i64 x43))] : Fr)) (fun x43 => ([] : List (Nat × Blk))) [79] [1, 77, 78] [0] Q k0 Q Q Q Q Q (fun x43 z44 hm hz44 => (WN [1, 77, 78, 79] Q Q ?_))))))))))
       refine RS (SA TK Q (TN (WN [1,77,78,79,80] Q Q (TQ ?_))))
       refine TC _ Q (fun h45=>?_) (fun h45=>?_)
       ·replace hm:=JT h45 hm
        refine TS (WT (WN [1,77,78,79] Q Q (TQ (TB (RS ?_)))))
        obtain⟨e46,he46,hm⟩:=GV hm
        refine SX Q Q (bZ TK Q Q Q Q he46) (SA TK Q (dA 1 Q Q iH Q (cO 1 [none,none,none,some 3,some 2,some 1,none,none,some 3,some 2,some 1,some 2,some 1,some 2] Q Q (SA TK Q (TN (WN [1,8,77,78,79] Q Q ?_))))))
        refine aK hm (fun x47=>([(104,.d (.bool (x47)))]:Fr)) (fun x47=>([]:List (Nat×Blk))) [104] [1,77,78,79] Q (fun z48 hm=>?_) (fun x47 hm=>?_)
        ·refine TG ?_
         iterate 4 (refine SA TK Q ?_)
         obtain⟨r49,hr49,hm⟩:=BI hm
         refine SX Q Q (RN Q Q (SC (.d _) (SC (.d _) SN)) (nP hr49)) (SA TK Q (SB TK Q (fun q50 hq50=>?_)))
         cases q50
         ·replace hm:=JB hq50 hm
          iterate 4 (refine SA TK Q ?_)
          obtain⟨r51,hr51,hm⟩:=BI hm
          refine SX Q Q (RN Q Q (SC (.d _) (SC (.d _) SN)) (nP hr51)) (SA TK Q (SA TK Q (SB TK Q (fun q52 hq52=>?_))))
          cases q52
          ·replace hm:=JB hq52 hm
           iterate 4 (refine SA TK Q ?_)
           obtain⟨r53,hr53,hm⟩:=BI hm
           refine SX Q Q (RN Q Q (SC (.d _) (SC (.d _) SN)) (nP hr53)) (SA TK Q (SA TK Q (TN (WT ?_))))
           exact⟨_,[0,1],(SJ hm),Q,k0,Q⟩
          ·replace hm:=JA hq52 hm
           iterate 7 (refine SA TK Q ?_)
           refine TN (WT ?_)
           exact⟨_,[0,1],(SJ hm),Q,k0,Q⟩
         ·replace hm:=JA hq50 hm
          iterate 15 (refine SA TK Q ?_)
          refine TN (WT ?_)
          exact⟨_,[0,1],(SJ hm),Q,k0,Q⟩
        ·refine WN [1,77,78,79,104] Q Q ?_
         refine TC _ Q (fun h54=>?_) (fun h54=>?_)
         ·replace hm:=JA h54 hm
          refine RS (SA TK Q (TN (WN [2] Q Q (TR (WB (WR ?_))))))
          obtain⟨v55,hm,hz⟩:=II hm
          rw [hz44 _ hz] at hm
          refine WR (WB ?_)
          obtain⟨v56,hm,hz⟩:=II hm
          rw [hz41 _ hz] at hm
          refine WR ?_
          obtain rfl:=OJ hm
          exact EndsS.one _ Q (.d _) (.refl _)
         ·replace hm:=JB h54 hm
          refine TS (WK (WT (WN [1,77,78,79] Q Q (TG ?_))))
          obtain⟨g57,hm⟩:=GI hm
          refine SX Q Q (aV Q Q Q Q g57) (SA TK Q (TN (WT ?_)))
          exact⟨_,[0],(SJ hm),Q,k0,Q⟩
       ·replace hm:=JF h45 hm
        refine aJ (WX ?_)
        obtain⟨v58,hm,hz⟩:=II hm
        rw [hz44 _ hz] at hm
        refine WX (WH (WT ?_))
        exact⟨_,[0],(SJ hm),Q,k0,Q⟩
      ·refine WN [1] Q Q (RS (qPG 9 4 Q (qRM 106 (.mmap 1) Q Q (SA TK Q (TN (WN [1,9] Q Q ?_))))))
       refine dI hm (fun m59=>([]:Fr)) (fun m59=>([(1,.map 9 4 (iI D.str D.bool m59))]:List (Nat×Blk))) [] [] Q (fun z60 hm hz60=>?_) (fun m59 hm=>?_)
       ·refine RS (SA TK Q (SA TK Q (SX Q Q (aT TK Q Q Q) (SA TK Q (TN (WN [9, 108, 109, 110] Q Q (TB (aZ hm (fun (x64, b65) => ([(110, .d (.int .i64 x64))] : Fr)) (fun (x64, b65) => ([(1, .map 9 4 (iI D.str D.bool b65))] : List (Nat × Blk))) [110] [9, 108, 109] [0, 1] Q k0 Q Q Q Q Q (fun s z66 hm hz66 => ?_)))))))))
        obtain⟨x64,b65⟩:=s
        refine WN [9,108,109,110] Q Q (RS (SA TK Q (TN (WN [9,108,109,110,111] Q Q (TQ ?_)))))
        refine TC _ Q (fun h67=>?_) (fun h67=>?_)
        ·replace hm:=JT h67 hm
         refine TS (WT (WN [9,108,109,110] Q Q (TQ (TB (RS ?_)))))
         obtain⟨e68,he68,hm⟩:=GV hm
         refine SX Q Q (bZ TK Q Q Q Q he68) (SA TK Q (dA 2 Q Q iH Q (cO 2 [none,none,none,some 3,some 2,some 1,none,none,some 3,some 2,some 1,some 2,some 1,some 2] Q Q (SA TK Q (TN (WN [9,11,108,109,110] Q Q (TQ (RS ?_))))))))
         refine SA TK Q (SA TK Q (SA TK Q ?_))
         obtain⟨g69,hm⟩:=GI hm
         refine SX Q Q (qWC qJP D.bool _ _ false Q qSU oF Q Q Q Q g69) (TN (WN [9,11,108,109,110,117] Q Q ?_))
         refine TC _ Q (fun h70=>?_) (fun h70=>?_)
         ·replace hm:=JA h70 hm
          refine RS (SA TK Q (TN (WN [2] Q Q (TR (WR (WB (WR ?_)))))))
          obtain⟨v71,hm,hz⟩:=II hm
          rw [hz66 _ hz] at hm
          refine WR (WB ?_)
          obtain⟨v72,hm,hz⟩:=II hm
          rw [hz60 _ hz] at hm
          refine WR ?_
          obtain rfl:=OJ hm
          exact EndsS.one _ Q (.d _) (.refl _)
         ·replace hm:=JB h70 hm
          refine TS (WT (WN [9,11,108,109,110] Q Q (TG (SA TK Q (SA TK Q (SA TK Q ?_))))))
          obtain⟨g73,hm⟩:=GI hm
          refine s_putE qJP D.bool qSU Q Q Q Q g73 (TN (WK (WT (WN [9,108,109,110] Q Q (TG ?_)))))
          obtain⟨g74,hm⟩:=GI hm
          refine SX Q Q (aV Q Q Q Q g74) (SA TK Q (TN (WT ?_)))
          exact⟨_,[0,1],(SJ hm),Q,k0,Q⟩
        ·replace hm:=JF h67 hm
         refine aJ (WX ?_)
         obtain⟨v75,hm,hz⟩:=II hm
         rw [hz66 _ hz] at hm
         refine WX (WH (WT ?_))
         exact⟨_,[0,1],(SJ hm),Q,k0,Q⟩
       ·refine WN [] Q Q (RS (SA TK Q (TN (WN [2] Q Q (TR ?_)))))
        obtain rfl:=OJ hm
        exact EndsS.one _ Q (.d _) (.refl _)

end Go.Proofs.YtcagmechagiclaaGreatDoor

set_option maxHeartbeats 8000000
set_option linter.unusedSimpArgs false
set_option linter.unusedVariables false
set_option maxRecDepth 20000
namespace Go.Proofs.YtcagmechagiclaaGreatDoor
open Go Go.TL

theorem bW {p0:Numbering} {p1:Int} {r:Int} (hm:bI p0 p1=some r):RetN Tryz.prog 77 [p0.enc,.int .i64 p1] (.int .i64 r):=by
 refine .unit (aQ qYS Tryz.func77 Q Tryz.ntmps77 Q Q (fun wX gX=>?_)) Q
 unfold bI at hm
 refine WN [0,1] Q Q (RS (eR 0 Q Q Q (SA TK Q (TN (WN [1,2] Q Q (RS ?_))))))
 iterate 4 (refine SA TK Q ?_)
 obtain⟨e1,he1,hm⟩:=GV hm
 refine SX Q Q (bZ TK Q Q Q Q he1) (SA TK Q (SA TK Q (SX Q Q (aT TK Q Q Q) ?_)))
 obtain⟨g2,hm⟩:=GI hm
 refine SX Q Q (aV Q Q Q Q g2) (SA TK Q (TN (WN [4] Q Q (TR ?_))))
 obtain rfl:=OJ hm
 exact EndsS.one _ Q (.d _) (.refl _)

theorem nR {p0:Table} {r0:Numbering} {r1:Int} (hm:iY p0=some (r0,r1)):RetT Tryz.prog 30 [p0.enc] [r0.enc,.int .i64 r1]:=by
 refine .of (mv:=fun _=>false) (pH zAG Tryz.func30 Q Tryz.ntmps30 Q Q (fun wX gX=>?_))
 unfold iY at hm
 refine WN [0] Q Q (RS (eR 0 Q Q Q (dA 1 Q Q tX Q (jR (f:=(D.int .i64)) 1 6 2 3 1 Q Q Q (cO 1 [some 14,some 1,some 1,none,none,none,none,none,none] Q Q (SA TK Q (TN (WN [1,2] Q Q ?_))))))))
 refine TQ (RS (SA TK Q ?_))
 obtain⟨r1,hr1,hm⟩:=BI hm
 refine SX Q Q (RN Q Q (SC (.d _) SN) (rB hr1)) (SA TK Q (TN (WN [1,2,4] Q Q (RS (SA TK Q (SA TK Q (TN (WN [1,2,4,10] Q Q ?_))))))))
 refine TC _ Q (fun h2=>?_) (fun h2=>?_)
 ·replace hm:=eT h2 hm
  refine RS (SX Q Q (jV Q qSC tX Q Q Q Q) (SA TK Q (SA TK Q (jR (f:=(D.int .i64)) 1 6 3 3 1 Q Q Q (cO 1 [some 14,some 1,some 1,none,none,none,none,none,none] Q Q (SA TK Q (TN (WN [2,3] Q Q (TR ?_)))))))))
  refine WR ?_
  obtain⟨rfl,rfl⟩:=Prod.mk.inj (Option.some.inj hm)
  exact⟨_,.mk _ (.cons (.agg (TK.lay Q) Q Q Q Q) (.cons (.tmp 3) .nil)) Q,(.cons (kS (.cons (.d _) Q (.cons (.d _) Q (.cons (.d _) Q (.cons (.d _) Q (.cons (.d _) Q (.cons (.d _) Q (.cons (eO Q) Q (.cons (.d _) Q (.cons (.d _) Q .nil)))))))))) (.refl _) (.cons (.d _) (.refl _) .nil))⟩
 ·replace hm:=eU h2 hm
  refine TS (WT (WN [1,2] Q Q (RS (SA TK Q (SX Q Q (jV Q qSC tX Q Q Q Q) (dA 3 Q Q tX Q (jR (f:=(D.int .i64)) 3 6 4 3 1 Q Q Q (cO 3 [some 14,some 1,some 1,none,none,none,none,none,none] Q Q ?_))))))))
  refine SA TK Q (jR (f:=(D.int .i64)) 3 6 5 3 1 Q Q Q (TN (WN [1,2,5] Q Q (RS (SA TK Q (SA TK Q ?_))))))
  obtain⟨g3,hm⟩:=GI hm
  refine SX Q Q (aV Q Q Q Q g3) (SA TK Q (SA TK Q (SX Q Q (aT TK Q Q Q) ?_)))
  obtain⟨g4,hm⟩:=GI hm
  refine SX Q Q (aV Q Q Q Q g4) ?_
  obtain⟨g5,hm⟩:=GI hm
  refine SX Q Q (aV Q Q Q Q g5) (SA TK Q (SA TK Q (SX Q Q (aT TK Q Q Q) ?_)))
  obtain⟨g6,hm⟩:=GI hm
  refine SX Q Q (aV Q Q Q Q g6) ?_
  obtain⟨g7,hm⟩:=GI hm
  refine SX Q Q (aV Q Q Q Q g7) (SA TK Q (SA TK Q (TN (WN [1,2,5] Q Q (RS ?_)))))
  iterate 4 (refine SA TK Q ?_)
  refine SX Q Q (aT TK Q Q Q) ?_
  obtain⟨g8,hm⟩:=GI hm
  refine SX Q Q (aV Q Q Q Q g8) (SA TK Q (SA TK Q (TN (WN [1,2,5] Q Q ?_))))
  refine aK hm (fun (c9,b10)=>([]:Fr)) (fun (c9,b10)=>([(3,.box 77 [.d (.sl 14 (p0.routes.map Route.enc)),.d (.sl 1 (p0.points.map (D.int .i64))),.d (.sl 1 (p0.homes.map (D.int .i64))),.d (.int .i64 p0.sections),.d (.int .i64 p0.signals),.d (.int .i64 ((((2:Int) * p0.sections)+((2:Int) * (p0.points.length:Int)))+((4:Int) * (p0.routes.length:Int)))),.msl 5 1 0 b10.length,.d (.int .i64 c9),.d (.int .i64 (0:Int))]),(5,.flat 3 1 (b10.map (D.int .i64)))]:List (Nat×Blk))) [] [1,2,5] Q (fun z11 hm=>?_) (fun j hm=>?_)
  ·refine RS (SA TK Q (SA TK Q (SX Q Q (aT TK Q Q Q) (SA TK Q (TN (WN [1, 2, 5, 38, 39] Q Q (TB (aZ hm (fun (x16, c17, b18) => ([(39, .d (.int .i64 x16))] : Fr)) (fun (x16, c17, b18) => ([(3, .box 77 [.d (.sl 14 (p0.routes.map Route.enc)), .d (.sl 1 (p0.points.map (D.int .i64))), .d (.sl 1 (p0.homes.map (D.int .i64))), .d (.int .i64 p0.sections), .d (.int .i64 p0.signals), .d (.int .i64 ((((2 : Int) * p0.sections) + ((2 : Int) * (p0.points.length : Int))) + ((4 : Int) * (p0.routes.length : Int)))), .msl 5 1 0 b18.length, .d (.int .i64 c17), .d (.int .i64 (0 : Int))]), (5, .flat 3 1 (b18.map (D.int .i64)))] : List (Nat × Blk))) [39] [1, 2, 5, 38] [0, 1, 2, 3, 4, 5] Q k0 Q Q Q Q Q (fun s z19 hm hz19 => ?_)))))))))
   obtain⟨x16,c17,b18⟩:=s
   refine WN [1,2,5,38,39] Q Q (RS (SA TK Q (TN (WN [1,2,5,38,39,40] Q Q (TQ ?_)))))
   refine TC _ Q (fun h20=>?_) (fun h20=>?_)
   ·replace hm:=JT h20 hm
    refine TS (WT (WN [1,2,5,38,39] Q Q (TQ (TB (RS (SA TK Q (SA TK Q (TN (WN [1,2,5,6,38,39] Q Q ?_)))))))))
    refine RS ?_
    iterate 4 (refine SA TK Q ?_)
    refine SX Q Q (dW [.tmp 45] TK Q Q lI Q Q Q Q Q) ?_
    obtain⟨g21,hm⟩:=GI hm
    refine cT (f:=(D.int .i64)) ([c17]:List Int) TK Q Q lI Q Q Q Q Q (fun h=>absurd h (Nat.not_lt_zero _)) Q cR g21 Q Q (SA TK Q (SA TK Q (TN (WN [1,2,5,6,38,39] Q Q (cN follows  ?_)))))
    iterate 4 (refine DA [0,1,2,3,4,5] TK Q ?_)
    obtain⟨r22,hr22,hm⟩:=BI hm
    refine DX [0,1,2,3,4,5] Q Q (RN Q Q (SC (kS (.cons (.d _) Q (.cons (.d _) Q (.cons (.d _) Q (.cons (.d _) Q (.cons (.d _) Q (.cons (.d _) Q (.cons (eO Q) Q (.cons (.d _) Q (.cons (.d _) Q .nil)))))))))) (SC (.d _) SN)) (bW hr22)) ?_
    obtain⟨g23,hm⟩:=GI hm
    refine DX [0,1,2,3,4,5] Q Q (aV Q Q Q Q g23) ?_
    obtain⟨g24,hm⟩:=GI hm
    refine DX [0,1,2,3,4,5] Q Q (aV Q Q Q Q g24) ?_
    obtain⟨g25,hm⟩:=GI hm
    refine DX [0,1,2,3,4,5] Q Q (aV Q Q Q Q g25) (DA [0,1,2,3,4,5] TK Q ?_)
    refine DT ?_ (by kernel_rfl)
    refine SA TK Q (TN (WK (WT (WN [1,2,5,38,39] Q Q (TG ?_)))))
    obtain⟨g26,hm⟩:=GI hm
    refine SX Q Q (aV Q Q Q Q g26) (SA TK Q (TN (WT ?_)))
    exact⟨_,[0,1,2,3,4,5],(SJ hm),Q,k0,Q⟩
   ·replace hm:=JF h20 hm
    refine aJ (WX ?_)
    obtain⟨v27,hm,hz⟩:=II hm
    rw [hz19 _ hz] at hm
    refine WX (WH (WT ?_))
    exact⟨_,[0,1,2,3,4,5],(SJ hm),Q,k0,Q⟩
  ·obtain⟨c9,b10⟩:=j
   refine WN [1,2,5] Q Q (RS ?_)
   iterate 4 (refine SA TK Q ?_)
   refine SX Q Q (aT TK Q Q Q) ?_
   obtain⟨g28,hm⟩:=GI hm
   refine SX Q Q (aV Q Q Q Q g28) ?_
   obtain⟨g29,hm⟩:=GI hm
   refine SX Q Q (aV Q Q Q Q g29) (SA TK Q (SA TK Q (TN (WN [2,5] Q Q (TQ (RS (SA TK Q (SA TK Q (SA TK Q (TN (WN [2,5,69] Q Q ?_)))))))))))
   refine TC _ Q (fun h30=>?_) (fun h30=>?_)
   ·replace hm:=JT h30 hm
    refine RS (SX Q Q (jV Q qSC tX Q Q Q Q) (SA TK Q (jR (f:=(D.int .i64)) 1 6 6 3 1 Q Q Q (cO 1 [some 14,some 1,some 1,none,none,none,none,none,none] Q Q (SA TK Q (TN (WN [2,3] Q Q (TR ?_))))))))
    refine WR ?_
    obtain⟨rfl,rfl⟩:=Prod.mk.inj (Option.some.inj hm)
    exact⟨_,.mk _ (.cons (.agg (TK.lay Q) Q Q Q Q) (.cons (.tmp 3) .nil)) Q,(.cons (kS (.cons (.d _) Q (.cons (.d _) Q (.cons (.d _) Q (.cons (.d _) Q (.cons (.d _) Q (.cons (.d _) Q (.cons (eO Q) Q (.cons (.d _) Q (.cons (.d _) Q .nil)))))))))) (.refl _) (.cons (.d _) (.refl _) .nil))⟩
   ·replace hm:=JF h30 hm
    refine TS (WT (WN [2,5] Q Q (RS (SA TK Q (SA TK Q (SA TK Q (TN (WN [2,3] Q Q (TR ?_)))))))))
    obtain⟨rfl,rfl⟩:=Prod.mk.inj (Option.some.inj hm)
    exact⟨_,.mk _ (.cons (.agg (TK.lay Q) Q Q Q Q) (.cons (.tmp 3) .nil)) Q,(.cons (kS (.cons (.d _) Q (.cons (.d _) Q (.cons (.d _) Q (.cons (.d _) Q (.cons (.d _) Q (.cons (.d _) Q (.cons (eO Q) Q (.cons (.d _) Q (.cons (.d _) Q .nil)))))))))) (.refl _) (.cons (.d _) (.refl _) .nil))⟩

theorem cH {p0:Numbering} {p1:Int} {p2:Int} {r:Int} (hm:bO p0 p1 p2=some r):RetN Tryz.prog 39 [p0.enc,.int .i64 p1,.int .i64 p2] (.int .i64 r):=by
 refine .unit (aQ qZX Tryz.func39 Q Tryz.ntmps39 Q Q (fun wX gX=>?_)) Q
 unfold bO at hm
 refine WN [0,1,2] Q Q (RS (eR 0 Q Q Q (SA TK Q (TN (WN [1,2,3] Q Q (RS (SA TK Q (SA TK Q (SA TK Q ?_)))))))))
 obtain⟨e1,he1,hm⟩:=GV hm
 refine SX Q Q (bZ TK Q Q Q Q he1) (SA TK Q (SA TK Q ?_))
 obtain⟨g2,hm⟩:=GI hm
 refine SX Q Q (aV Q Q Q Q g2) (SA TK Q (TN (WN [6] Q Q (TR ?_))))
 obtain rfl:=OJ hm
 exact EndsS.one _ Q (.d _) (.refl _)

theorem jO {p0:Numbering} {p1:Int} {r:Int} (hm:eK p0 p1=some r):RetN Tryz.prog 78 [p0.enc,.int .i64 p1] (.int .i64 r):=by
 refine .unit (aQ qYR Tryz.func78 Q Tryz.ntmps78 Q Q (fun wX gX=>?_)) Q
 unfold eK at hm
 refine WN [0,1] Q Q (RS (eR 0 Q Q Q (SA TK Q (TN (WN [1,2] Q Q (cE follows  ?_))))))
 iterate 4 (refine DA [0] TK Q ?_)
 obtain⟨r1,hr1,hm⟩:=BI hm
 refine DX [0] Q Q (RN Q Q (SC (.d _) (SC (.d _) SN)) (bW hr1)) ?_
 obtain⟨g2,hm⟩:=GI hm
 refine DX [0] Q Q (aV Q Q Q Q g2) ?_
 obtain⟨r3,hr3,hm⟩:=BI hm
 refine DX [0] Q Q (RN Q Q (SC (.d _) (SC (.d _) (SC (.d _) SN))) (cH hr3)) ?_
 refine DT ?_ (by kernel_rfl)
 refine SA TK Q (TN (WN [4] Q Q (TR ?_)))
 obtain rfl:=OJ hm
 exact EndsS.one _ Q (.d _) (.refl _)

theorem bV {p0:Int} {r:Expr} (hm:cB p0=some r):RetD Tryz.prog 41 [.int .i64 p0] (r.enc):=by
 refine .of (mv:=fun _=>false) (aQ qZV Tryz.func41 Q Tryz.ntmps41 Q Q (fun wX gX=>?_))
 unfold cB at hm
 refine WN [0] Q Q (RS (dA 0 Q Q aH Q (cO 0 [none,none,some 3] Q Q (TN (WN [0,2] Q Q (RS (SA TK Q (SX Q Q (dJ Q qAL aH Q Q Q Q) ?_))))))))
 refine qGP 4 [none,none,some 3] Q (SA TK Q (TN (WN [2] Q Q (TR ?_))))
 obtain rfl:=OJ hm
 exact EndsS.cellR _ TK Q Q Q Q Q (.d _)

theorem pG {p0:Numbering} {p1:Int} {p2:Int} {r:Int} (hm:gN p0 p1 p2=some r):RetN Tryz.prog 141 [p0.enc,.int .i64 p1,.int .i64 p2] (.int .i64 r):=by
 refine .unit (aQ qUK Tryz.func141 Q Tryz.ntmps141 Q Q (fun wX gX=>?_)) Q
 unfold gN at hm
 refine WN [0,1,2] Q Q (RS (eR 0 Q Q Q (SA TK Q (TN (WN [1,2,3] Q Q (RS (SA TK Q (SA TK Q (SA TK Q ?_)))))))))
 obtain⟨g1,hm⟩:=GI hm
 refine SX Q Q (aV Q Q Q Q g1) (SA TK Q (SA TK Q (SA TK Q (SX Q Q (aT TK Q Q Q) ?_))))
 obtain⟨g2,hm⟩:=GI hm
 refine SX Q Q (aV Q Q Q Q g2) ?_
 obtain⟨g3,hm⟩:=GI hm
 refine SX Q Q (aV Q Q Q Q g3) (SA TK Q ?_)
 obtain⟨g4,hm⟩:=GI hm
 refine SX Q Q (aV Q Q Q Q g4) ?_
 obtain⟨g5,hm⟩:=GI hm
 refine SX Q Q (aV Q Q Q Q g5) (SA TK Q ?_)
 obtain⟨g6,hm⟩:=GI hm
 refine SX Q Q (aV Q Q Q Q g6) (SA TK Q (TN (WN [6] Q Q (TR ?_))))
 obtain rfl:=OJ hm
 exact EndsS.one _ Q (.d _) (.refl _)

theorem kO {p0:Numbering} {p1:Int} {p2:Int} {r:Int} (hm:eH p0 p1 p2=some r):RetN Tryz.prog 92 [p0.enc,.int .i64 p1,.int .i64 p2] (.int .i64 r):=by
 refine .unit (aQ qYD Tryz.func92 Q Tryz.ntmps92 Q Q (fun wX gX=>?_)) Q
 unfold eH at hm
 refine WN [0,1,2] Q Q (RS (eR 0 Q Q Q (SA TK Q (TN (WN [1,2] Q Q (RS (SA TK Q ?_)))))))
 obtain⟨g1,hm⟩:=GI hm
 refine SX Q Q (aV Q Q Q Q g1) (SA TK Q ?_)
 obtain⟨g2,hm⟩:=GI hm
 refine SX Q Q (aV Q Q Q Q g2) (SA TK Q (TN (WN [6] Q Q (TR ?_))))
 obtain rfl:=OJ hm
 exact EndsS.one _ Q (.d _) (.refl _)

theorem dQ {p0:(List Expr)} {r:Expr} (hm:dO p0=some r):RetD Tryz.prog 40 [.sl 3 (p0.map Expr.encR)] (r.enc):=by
 refine .of (mv:=fun _=>false) (aQ qZW Tryz.func40 Q Tryz.ntmps40 Q Q (fun wX gX=>?_))
 unfold dO at hm
 refine WN [0] Q Q (RS (dA 0 Q Q aH Q (cO 0 [none,none,some 3] Q Q (TN (WN [0,2] Q Q (RS (SA TK Q (SX Q Q (dJ Q qAL aH Q Q Q Q) ?_))))))))
 refine SA TK Q (TN (WN [2] Q Q (TR ?_)))
 obtain rfl:=OJ hm
 exact EndsS.cellR _ TK Q Q Q Q Q (.d _)

theorem cI {p0:(List Expr)} {r:Expr} (hm:cJ p0=some r):RetD Tryz.prog 79 [.sl 3 (p0.map Expr.encR)] (r.enc):=by
 refine .of (mv:=fun _=>false) (aQ qYQ Tryz.func79 Q Tryz.ntmps79 Q Q (fun wX gX=>?_))
 unfold cJ at hm
 refine WN [0] Q Q (RS (dA 0 Q Q aH Q (cO 0 [none,none,some 3] Q Q (TN (WN [0,2] Q Q (RS (SA TK Q (SX Q Q (dJ Q qAL aH Q Q Q Q) ?_))))))))
 refine SA TK Q (TN (WN [2] Q Q (TR ?_)))
 obtain rfl:=OJ hm
 exact EndsS.cellR _ TK Q Q Q Q Q (.d _)

theorem lJ {p0:Numbering} {p1:Int} {r:Int} (hm:eX p0 p1=some r):RetN Tryz.prog 83 [p0.enc,.int .i64 p1] (.int .i64 r):=by
 refine .unit (aQ qYM Tryz.func83 Q Tryz.ntmps83 Q Q (fun wX gX=>?_)) Q
 unfold eX at hm
 refine WN [0,1] Q Q (RS (eR 0 Q Q Q (SA TK Q (TN (WN [1,2] Q Q (RS (SA TK Q (SA TK Q ?_))))))))
 obtain⟨r1,hr1,hm⟩:=BI hm
 refine SX Q Q (RN Q Q (SC (.d _) (SC (.d _) SN)) (jO hr1)) ?_
 obtain⟨g2,hm⟩:=GI hm
 refine SX Q Q (aV Q Q Q Q g2) (SA TK Q (TN (WN [4] Q Q (TR ?_))))
 obtain rfl:=OJ hm
 exact EndsS.one _ Q (.d _) (.refl _)

theorem cW {p0:Expr} {r:Expr} (hm:cS p0=some r):RetD Tryz.prog 85 [p0.enc] (r.enc):=by
 refine .of (mv:=fun _=>false) (aQ qYK Tryz.func85 Q Tryz.ntmps85 Q Q (fun wX gX=>?_))
 unfold cS at hm
 refine WN [0] Q Q (RS (eR 0 Q Q Q (dA 1 Q Q aH Q (cO 1 [none,none,some 3] Q Q (TN (WN [1,2] Q Q (RS (SA TK Q ?_))))))))
 refine SX Q Q (bF (f:=Expr.encR) (xs:=([p0]:List Expr)) [.tmp 3] TK Q Q aH Q (bB Q (aE (Expr.encR_eq _) aL)) Q (aI Expr.encR_cells) Q) (SX Q Q (dJ Q qAL aH Q Q Q Q) (SA TK Q (TN (WN [2] Q Q (TR ?_)))))
 obtain rfl:=OJ hm
 exact EndsS.cellR _ TK Q Q Q Q Q (.d _)

theorem aY {p0:Numbering} {p1:Int} {p2:Int} {r:Int} (hm:aS p0 p1 p2=some r):RetN Tryz.prog 35 [p0.enc,.int .i64 p1,.int .i64 p2] (.int .i64 r):=by
 refine .unit (aQ zAB Tryz.func35 Q Tryz.ntmps35 Q Q (fun wX gX=>?_)) Q
 unfold aS at hm
 refine WN [0,1,2] Q Q (RS (eR 0 Q Q Q (SA TK Q (TN (WN [1,2,3] Q Q (RS (SA TK Q (SA TK Q (SA TK Q ?_)))))))))
 obtain⟨g1,hm⟩:=GI hm
 refine SX Q Q (aV Q Q Q Q g1) ?_
 obtain⟨g2,hm⟩:=GI hm
 refine SX Q Q (aV Q Q Q Q g2) (SA TK Q ?_)
 obtain⟨g3,hm⟩:=GI hm
 refine SX Q Q (aV Q Q Q Q g3) (SA TK Q (TN (WN [6] Q Q (TR ?_))))
 obtain rfl:=OJ hm
 exact EndsS.one _ Q (.d _) (.refl _)

theorem qK (n:Nat) (hn:n≤1000000000) (mv:Nat→Bool):Ret Tryz.prog 172 [] mv ([.nilsl,.int .i64 n].map .d) (.msl 0 2 0 0) [.flat 133 2 []]:=by
 refine cC qTS Tryz.func172 Q Tryz.ntmps172 Q Q (fun wX gX=>(bG [0,1] (aO Q (aO Q .nil)) (bL Q) (RS (cQ _ Q (gW (.inr Q) Q) (TN (bG [0,1] (aO Q (aO Q .nil)) (bL Q) (TQ (RS (cQ _ Q (gW (.inl Q) Q) ?_)))))))))
 refine cQ _ Q (oC Q Q Q Q) (TN (bG [0,1,6] (aO Q (aO Q (aO Q .nil))) (bL Q) ?_))
 refine TC _ Q (fun hneg=>?_) (fun hneg=>?_)
 ·exact absurd (of_decide_eq_true hneg) (by omega)
 ·refine TS (WT (bG [0,1] (aO Q (aO Q .nil)) (bL Q) (TQ (RS (cQ _ Q (gW (.inl Q) Q) (cQ _ Q (gW (.inl Q) Q) (cQ _ Q (qBM Q wI Q) (cQ _ Q (gW (.inl Q) Q) ?_))))))))
  refine cQ _ Q (oA Q wI Q) ?_
  refine cQ _ Q (sG (r:=0) Q Q Q Q Q (by first|omega|(constructor<;>omega))) ?_
  refine cQ _ Q (sG (r:=(n:Int)) Q Q Q Q (by omega) (by first|omega|(constructor<;>omega))) ?_
  refine cQ _ Q (gW (.inr Q) Q) (TN (bG [0,1] (aO Q (aO Q .nil)) (bL Q) (RS (cQ _ Q (gW (.inl Q) Q) (cQ _ Q (oC Q Q Q Q) (TN (bG [0,1,16] (aO Q (aO Q (aO Q .nil))) (bL Q) ?_)))))))
  refine TC _ Q (fun hpos=>?_) (fun hpos=>?_)
  ·have hpos : 0 < n := by simpa using hpos
   refine TG (cQ _ Q (gW (.inl Q) Q) (cQ _ Q (gW (.inl Q) Q) (cQ _ Q (qBM Q wI Q) (cQ _ Q (qOK Q wI Q Q Q) (cQ _ Q (gW (.inl Q) Q) ?_)))))
   refine qNN (n:=n) Q wI Tryz.underlying3 fU Q Q Q hpos (by decide) (by omega) (by omega) ?_
   refine cQ _ Q (gW (.inl Q) Q) (cQ _ Q (oA Q wI Q) (cQ _ Q (qCO 0 2 16 0 n 0 0 Q wI Q Q Q (Nat.le_refl _) (Nat.zero_le _)) (cQ _ Q (jW (.inr Q) Q) (TN (WT (bG [0] (fI Q .nil) (eA Q (bL Q)) (RS (cQ _ Q (jW (.inl Q) Q) ?_))))))))
   refine cQ _ Q (jW (.inr Q) Q) (TN (bG [4] (fI Q .nil) (eA Q (bL Q)) (TR ?_)))
   exact⟨_,[0],res Q,by decide,fun i hi=>absurd hi (Nat.not_lt_zero i),Q,Q⟩
  ·refine qAE 0 133 2 Q (TS (WT (bG [0] (fI Q .nil) (eA Q (bL Q)) (RS (cQ _ Q (jW (.inl Q) Q) (cQ _ Q (jW (.inr Q) Q) (TN (bG [4] (fI Q .nil) (eA Q (bL Q)) ?_))))))))
   refine TR ?_
   exact⟨_,[0],res Q,by decide,fun i hi=>absurd hi (Nat.not_lt_zero i),Q,Q⟩

theorem pB (xss:List (List Setting)) (hn:xss.length≤1000) (ht:xss.flatten.length≤1000000000) (mv:Nat→Bool):Ret Tryz.prog 145 [] mv ([.sl 1 (xss.map fun l=>.sl 2 (l.map Setting.enc))].map .d) (.msl 0 2 0 xss.flatten.length) [.flat 133 2 (xss.flatten.map Setting.enc)]:=by
 refine cC qUG Tryz.func145 Q Tryz.ntmps145 Q Q (fun wX gX=>(bG [0] (aO Q .nil) (bL Q) (RS (cQ _ Q (gW (.inr Q) Q) (TN (bG [0] (aO Q .nil) (bL Q) (RS (cQ _ Q (gW (.inr Q) Q) (TN ?_)))))))))
 refine bG [0,3] (aO Q (aO Q .nil)) (bL Q) (TQ (RS (cQ _ Q (gW (.inl Q) Q) ?_)))
 refine cQ _ Q (by first|exact qDJ Q yW Q (by first|exact List.length_map _|rfl)|exact oA Q yW Q) ?_
 refine cQ _ Q (gW (.inl Q) Q) (TN (bG [0,3,9,10,11] (aO Q (aO Q (aO Q (aO Q (aO Q .nil))))) (bL Q) (TB ?_)))
 refine pP (fun i=>([(3,.d (.int .i64 ((iC xss i).length:Int))),(11,.d (.int .i64 ((i:Nat):Int)))]:Fr)) (fun i=>([]:List (Nat×Blk))) (fun i=>i≤xss.length) (fun i=>xss.length - i) [3,11] [0,9,10] [] 0 (by decide) (fun i hi=>absurd hi (Nat.not_lt_zero i)) (Nat.zero_le _) (aO Q (aO Q (aO Q .nil))) Q (by rw [pL];rfl) (bL Q) Q ?_
 rintro i hok
 refine bG [3,11,0,9,10] (aO Q (aO Q (aO Q (aO Q (aO Q .nil))))) (bL Q) (RS (cQ _ Q (oC Q Q Q Q) (TN (bG [0,3,9,10,11,12] (aO Q (aO Q (aO Q (aO Q (aO Q (aO Q .nil)))))) (bL Q) (TQ ?_)))))
 refine TC _ Q (fun hlt=>?_) (fun hlt=>?_)
 ·have hlt : i < xss.length := by simpa using hlt
  obtain⟨x,hx⟩:∃ x,(xss)[i]?=some x:=⟨_,List.getElem?_eq_getElem (by first|exact hlt|omega|(simp;omega))⟩
  have hs:=iU hx
  have hle:=gA xss (i+1)
  refine TS (WT (bG [0,3,9,10,11] (aO Q (aO Q (aO Q (aO Q (aO Q .nil))))) (bL Q) (TQ (TB (RS (cQ _ Q (uQ Q yW Q Q (qBK hx)) (cQ _ Q (yF Q zBU Q Q) (cQ _ Q (gW (.inr Q) Q) ?_))))))))
  refine TN (bG [0,3,5,9,10,11] (aO Q (aO Q (aO Q (aO Q (aO Q (aO Q .nil)))))) (bL Q) (RS (cQ _ Q (gW (.inl Q) Q) (cQ _ Q (gW (.inl Q) Q) ?_))))
  refine cQ _ Q (by first|exact qDJ Q wI Q (by first|exact List.length_map _|rfl)|exact oA Q wI Q) ?_
  refine cQ _ Q (sG (r:=((iC xss (i+1)).length:Int)) Q Q Q Q (by rw [hs];simp) (by omega)) ?_
  refine cQ _ Q (gW (.inr Q) Q) (TN (bG [0,3,9,10,11] (aO Q (aO Q (aO Q (aO Q (aO Q .nil))))) (bL Q) (RS (cQ _ Q (gW (.inl Q) Q) (cQ _ Q (oC Q Q Q Q) (TN (bG [0,3,9,10,11,20] (aO Q (aO Q (aO Q (aO Q (aO Q (aO Q .nil)))))) (bL Q) ?_)))))))
  refine TC _ Q (fun hneg=>?_) (fun hneg=>?_)
  ·exact absurd (of_decide_eq_true hneg) (by omega)
  ·refine TS (WK (WT (bG [0,3,9,10,11] (aO Q (aO Q (aO Q (aO Q (aO Q .nil))))) (bL Q) (TG ?_))))
   refine cQ _ Q (sH Q Q Q Q (by first|omega|(constructor<;>omega))) ?_
   refine cQ _ Q (gW (.inl Q) Q) (TN (WT ?_))
   exact⟨(i+1),[],by decide,(fun i hi=>absurd hi (Nat.not_lt_zero i)),(by omega),(by omega),Q⟩
 ·have hge : ¬ i < xss.length := by simpa using hlt
  have hi:i=xss.length:=by omega
  refine aJ (WX (WX (WH (WT (bG [0,3] (aO Q (aO Q .nil)) (bL Q) (RS (cQ _ Q (gW (.inl Q) Q) ?_)))))))
  refine xR Q Q Q (qK _ (by have:=gA xss i;omega) (fun _=>false)) Q Q ?_
  refine cQ _ Q (jW (.inr Q) Q) (TN (bG [0,6] (aO Q (fI Q .nil)) (eA Q (bL Q)) (TQ (RS (cQ _ Q (gW (.inl Q) Q) ?_)))))
  refine cQ _ Q (by first|exact qDJ Q yW Q (by first|exact List.length_map _|rfl)|exact oA Q yW Q) ?_
  refine cQ _ Q (gW (.inl Q) Q) (TN (bG [6,25,26,27] (fI Q (aO Q (aO Q (aO Q .nil)))) (eA Q (bL Q)) (TB ?_)))
  refine pP (fun i=>([(6,.msl 0 2 0 (iC xss i).length),(27,.d (.int .i64 ((i:Nat):Int)))]:Fr)) (fun i=>([(0,.flat 133 2 ((iC xss i).map Setting.enc))]:List (Nat×Blk))) (fun i=>i≤xss.length) (fun i=>xss.length - i) [6,27] [25,26] [0] 0 (by decide) (fun i hi=>absurd hi (Nat.not_lt_zero i)) (Nat.zero_le _) (aO Q (aO Q .nil)) Q (by rw [pL];rfl) (eA Q (bL Q)) (by rw [pL];rfl) ?_
  rintro i hok
  refine bG [6,27,25,26] (fI Q (aO Q (aO Q (aO Q .nil)))) (eA Q (bL Q)) (RS (cQ _ Q (oC Q Q Q Q) (TN (bG [6,25,26,27,28] (fI Q (aO Q (aO Q (aO Q (aO Q .nil))))) (eA Q (bL Q)) (TQ ?_)))))
  refine TC _ Q (fun hlt=>?_) (fun hlt=>?_)
  ·have hlt : i < xss.length := by simpa using hlt
   obtain⟨x,hx⟩:∃ x,(xss)[i]?=some x:=⟨_,List.getElem?_eq_getElem (by first|exact hlt|omega|(simp;omega))⟩
   have hs:=iU hx
   have hle:=gA xss (i+1)
   have hsl:(iC xss (i+1)).length=(iC xss i).length+x.length:=by rw [hs];simp
   refine TS (WT (bG [6,25,26,27] (fI Q (aO Q (aO Q (aO Q .nil)))) (eA Q (bL Q)) (TQ (TB (RS (cQ _ Q (uQ Q yW Q Q (qBK hx)) (cQ _ Q (yF Q zBU Q Q) (cQ _ Q (gW (.inr Q) Q) ?_))))))))
   refine TN (bG [6,8,25,26,27] (fI Q (aO Q (aO Q (aO Q (aO Q .nil))))) (eA Q (bL Q)) (TG (cQ _ Q (jW (.inl Q) Q) (cQ _ Q (gW (.inl Q) Q) ?_))))
   refine qCD (m:=(iC xss (i+1)).length) (ds:=x.map Setting.enc) (es':=(iC xss (i+1)).map Setting.enc) Q wI fU Q Q Q (by simp) (fun h=>absurd h (Nat.not_lt_zero _)) Q ⟨Q,(by first|rfl|(simp [List.map_take,List.map_drop];done)|(rw [← List.map_drop,List.take_of_length_le (by simp)]))⟩ (by rw [hs];simp) (by simp;omega) (by omega) (by omega) Q Q ?_
   refine cQ _ Q (jW (.inr Q) Q) (TN (WK (WT (bG [6,25,26,27] (fI Q (aO Q (aO Q (aO Q .nil)))) (eA Q (bL Q)) (TG ?_)))))
   refine cQ _ Q (sH Q Q Q Q (by first|omega|(constructor<;>omega))) ?_
   refine cQ _ Q (gW (.inl Q) Q) (TN (WT ?_))
   exact⟨(i+1),[0],by decide,(fun i hi=>absurd hi (Nat.not_lt_zero i)),(by omega),(by omega),Q⟩
  ·have hge : ¬ i < xss.length := by simpa using hlt
   have hi:i=xss.length:=by omega
   have hall:=qJZ hge
   refine aJ (WX (WX (WH (WT (bG [6] (fI Q .nil) (eA Q (bL Q)) (RS (cQ _ Q (jW (.inl Q) Q) (cQ _ Q (jW (.inr Q) Q) ?_))))))))
   refine TN (bG [2] (fI Q .nil) (eA Q (bL Q)) (TR ?_))
   rw [hall]
   exact⟨_,[0],res Q,by decide,fun i hi=>absurd hi (Nat.not_lt_zero i),Q,Q⟩

theorem qJ {p0:List (List Setting)} {r:List Setting} (hm:jA p0=some r):Ret Tryz.prog 145 [] (fun _=>false) ([.sl 1 (p0.map (fun l=>D.sl 2 (l.map Setting.enc)))].map .d) (.msl 0 2 0 r.length) [.flat 133 2 (r.map Setting.enc)]:=by
 unfold jA at hm
 obtain⟨g,hm⟩:=GI hm
 obtain rfl:=OJ hm
 exact pB p0 g.1 g.2 (fun _=>false)

theorem tS {p0:Int} {r:Bool} (hm:mA p0=some r):RetN Tryz.prog 174 [.int .i64 p0] (.bool (r)):=by
 refine .unit (aQ qTR Tryz.func174 Q Tryz.ntmps174 Q Q (fun wX gX=>?_)) Q
 unfold mA at hm
 refine WN [0] Q Q (RS (SA TK Q (TN (WN [0] Q Q (RS ?_)))))
 iterate 4 (refine SA TK Q ?_)
 refine TN (WN [2] Q Q (TR ?_))
 obtain rfl:=OJ hm
 exact EndsS.one _ Q (.d _) (.refl _)

theorem qZ {p0:Int} {p1:Int} {r:Int} (hm:jH p0 p1=some r):RetN Tryz.prog 149 [.int .i64 p0,.int .i64 p1] (.int .i64 r):=by
 refine .unit (aQ qUC Tryz.func149 Q Tryz.ntmps149 Q Q (fun wX gX=>?_)) Q
 unfold jH at hm
 refine WN [0,1] Q Q (RS (SA TK Q (TN (WN [0,1] Q Q (RS (SA TK Q ?_))))))
 obtain⟨r1,hr1,hm⟩:=BI hm
 refine SX Q Q (RN Q Q (SC (.d _) SN) (tS hr1)) (SA TK Q (TN (WN [0,1,5] Q Q (RS (SA TK Q ?_)))))
 obtain⟨r2,hr2,hm⟩:=BI hm
 refine SX Q Q (RN Q Q (SC (.d _) SN) (tS hr2)) (SA TK Q (TN (WN [0,1,5,6] Q Q (TQ (RS (SA TK Q (TN (WN [0,1,6,11] Q Q ?_))))))))
 refine TC _ Q (fun h3=>?_) (fun h3=>?_)
 ·replace hm:=JA h3 hm
  refine TQ (RS (SA TK Q (TN (WN [12] Q Q ?_))))
  refine TC _ Q (fun h4=>?_) (fun h4=>?_)
  ·replace hm:=JA h4 hm
   refine RS (SA TK Q (TN (WN [4] Q Q (TR (WR (WR ?_))))))
   obtain rfl:=OJ hm
   exact EndsS.one _ Q (.d _) (.refl _)
  ·replace hm:=JB h4 hm
   refine TS (WT (WN [] Q Q (RS (SA TK Q (TN (WN [4] Q Q (TR (WR ?_))))))))
   obtain rfl:=OJ hm
   exact EndsS.one _ Q (.d _) (.refl _)
 ·replace hm:=JB h3 hm
  refine TS (WT (WN [0,1,6] Q Q (TQ (RS (SA TK Q (TN (WN [0,1,13] Q Q ?_)))))))
  refine TC _ Q (fun h5=>?_) (fun h5=>?_)
  ·replace hm:=JA h5 hm
   refine RS (SA TK Q (TN (WN [4] Q Q (TR (WR ?_)))))
   obtain rfl:=OJ hm
   exact EndsS.one _ Q (.d _) (.refl _)
  ·replace hm:=JB h5 hm
   refine TS (WT (WN [0,1] Q Q (TQ (RS (SA TK Q (SA TK Q (SA TK Q (TN (WN [0,1,16] Q Q ?_)))))))))
   refine TC _ Q (fun h6=>?_) (fun h6=>?_)
   ·replace hm:=JT h6 hm
    refine RS (SA TK Q (TN (WN [4] Q Q (TR (WR ?_)))))
    obtain rfl:=OJ hm
    exact EndsS.one _ Q (.d _) (.refl _)
   ·replace hm:=JF h6 hm
    refine TS (WT (WN [0,1] Q Q (TQ (RS (SA TK Q (SA TK Q (SA TK Q (TN (WN [19] Q Q ?_)))))))))
    refine TC _ Q (fun h7=>?_) (fun h7=>?_)
    ·replace hm:=JT h7 hm
     refine RS (SA TK Q (TN (WN [4] Q Q (TR (WR ?_)))))
     obtain rfl:=OJ hm
     exact EndsS.one _ Q (.d _) (.refl _)
    ·replace hm:=JF h7 hm
     refine TS (WT (WN [] Q Q (RS (SA TK Q (TN (WN [4] Q Q (TR ?_)))))))
     obtain rfl:=OJ hm
     exact EndsS.one _ Q (.d _) (.refl _)

theorem qHS {p0:(List Int)} {r:Int} (hm:qF p0=some r):RetN Tryz.prog 148 [.sl 1 (p0.map (D.int .i64))] (.int .i64 r):=by
 refine .unit (aQ qUD Tryz.func148 Q Tryz.ntmps148 Q Q (fun wX gX=>?_)) Q
 unfold qF at hm
 refine WN [0] Q Q (RS (SA TK Q (TN (WN [0] Q Q (RS (SA TK Q (TN (WN [0,3] Q Q ?_))))))))
 refine dI hm (fun _=>([]:Fr)) (fun _=>([]:List (Nat×Blk))) [] [3] Q (fun z1 hm hz1=>?_) (fun j hm=>?_)
 ·refine RS (SA TK Q (SX Q Q (aT TK Q Q Q) (SA TK Q (TN (WN [3, 6, 7, 8] Q Q (TB (aZ hm (fun x3 => ([(8, .d (.int .i64 x3))] : Fr)) (fun x3 => ([] : List (Nat × Blk))) [8] [3, 6, 7] [] Q k0 Q Q Q Q Q (fun x3 z4 hm hz4 => (WN [3, 6, 7, 8] Q Q ?_)))))))))
  refine RS (SA TK Q (TN (WN [3,6,7,8,9] Q Q (TQ ?_))))
  refine TC _ Q (fun h5=>?_) (fun h5=>?_)
  ·replace hm:=JT h5 hm
   refine TS (WT (WN [3,6,7,8] Q Q (TQ (TB (RS ?_)))))
   obtain⟨e6,he6,hm⟩:=GV hm
   refine SX Q Q (bZ TK Q Q Q Q he6) (SA TK Q (SA TK Q (TN (WN [3,5,6,7,8] Q Q (RS (SA TK Q (SA TK Q (SA TK Q (TN (WN [3,5,6,7,8,14] Q Q ?_))))))))))
   refine TC _ Q (fun h7=>?_) (fun h7=>?_)
   ·replace hm:=eT h7 hm
    refine RS (SA TK Q (SA TK Q (TN (WN [2] Q Q (TR (WB (WR ?_)))))))
    obtain⟨v8,hm,hz⟩:=II hm
    rw [hz4 _ hz] at hm
    refine WR (WB ?_)
    obtain⟨v9,hm,hz⟩:=II hm
    rw [hz1 _ hz] at hm
    refine WR ?_
    obtain rfl:=OJ hm
    exact EndsS.one _ Q (.d _) (.refl _)
   ·replace hm:=eU h7 hm
    refine TS (WK (WT (WN [3,6,7,8] Q Q (TG ?_))))
    obtain⟨g10,hm⟩:=GI hm
    refine SX Q Q (aV Q Q Q Q g10) (SA TK Q (TN (WT ?_)))
    exact⟨_,[],(SJ hm),Q,k0,Q⟩
  ·replace hm:=JF h5 hm
   refine aJ (WX ?_)
   obtain⟨v11,hm,hz⟩:=II hm
   rw [hz4 _ hz] at hm
   refine WX (WH (WT ?_))
   exact⟨_,[],(SJ hm),Q,k0,Q⟩
 ·refine WN [3] Q Q (RS (SA TK Q (SA TK Q (TN (WN [2] Q Q (TR ?_))))))
  obtain rfl:=OJ hm
  exact EndsS.one _ Q (.d _) (.refl _)

theorem wA {p0:Setting} {p1:Setting} {r:Int} (hm:dF p0 p1=some r):RetN Tryz.prog 147 [p0.enc,p1.enc] (.int .i64 r):=by
 refine .unit (aQ qUE Tryz.func147 Q Tryz.ntmps147 Q Q (fun wX gX=>?_)) Q
 unfold dF at hm
 refine WN [0,1] Q Q (RS (eR 0 Q Q Q (eR 1 Q Q Q (SA TK Q (TN (WN [2,3] Q Q (cE follows  ?_)))))))
 iterate 4 (refine DA [0,1] TK Q ?_)
 obtain⟨r1,hr1,hm⟩:=BI hm
 refine DX [0,1] Q Q (RN Q Q (SC (.d _) (SC (.d _) SN)) (qZ hr1)) ?_
 iterate 4 (refine DA [0,1] TK Q ?_)
 obtain⟨r2,hr2,hm⟩:=BI hm
 refine DX [0,1] Q Q (RN Q Q (SC (.d _) (SC (.d _) SN)) (qZ hr2)) (DX [0,1] Q Q (dW [.tmp 9,.tmp 14] TK Q Q lI Q Q Q Q Q) ?_)
 obtain⟨r3,hr3,hm⟩:=BI hm
 refine DX [0,1] Q Q (RN Q Q (SC (.d _) SN) (qHS hr3)) ?_
 refine DT ?_ (by kernel_rfl)
 refine SA TK Q (TN (WN [4] Q Q (TR ?_)))
 obtain rfl:=OJ hm
 exact EndsS.one _ Q (.d _) (.refl _)

theorem lE {p0:Route} {r:(List Setting)} (hm:gD p0=some r):RetD Tryz.prog 94 [p0.enc] (.sl 2 (r.map Setting.enc)):=by
 refine .of (mv:=fun _=>false) (aQ qYB Tryz.func94 Q Tryz.ntmps94 Q Q (fun wX gX=>?_))
 unfold gD at hm
 refine WN [0] Q Q (RS (eR 0 Q Q Q (SA TK Q (TN (WN [1] Q Q (RS ?_))))))
 iterate 6 (refine SA TK Q ?_)
 refine SX Q Q (dW [.tmp 8,.tmp 10,.tmp 12] TK Q Q zero71 Q Q Q Q Q) ?_
 obtain⟨r1,hr1,hm⟩:=BI hm
 refine xR Q Q Q (qJ hr1) Q Q (qRM 14 (.msl 1 2 0 r1.length) Q Q (SA TK Q (TN (WN [3] Q Q (RS (SA TK Q ?_))))))
 obtain⟨g2,hm⟩:=GI hm
 refine qWO [1] Q Q Q (by simp) Q Q Q (qI mT Q (fun _ _ _ h=>(wA h).retD) r1 g2) Q Q ?_
 refine oU 3 (qP dF r1).length Q (sN _).symm (oU 15 (qP dF r1).length Q (sN _).symm (TN (WN [3] Q Q (RS (jD (f:=Setting.enc) 2 133 2 Q Q Q (TN (WN [3,4] Q Q ?_)))))))
 refine aK hm (fun b3=>([(4,.msl 2 2 0 b3.length)]:Fr)) (fun b3=>([(2,.flat 133 2 (b3.map Setting.enc))]:List (Nat×Blk))) [4] [] Q (fun z4 hm=>?_) (fun b3 hm=>?_)
 ·refine RS (SA TK Q (SA TK Q (SA TK Q (TN (WN [3, 4, 17, 18, 19] Q Q (TB (aZ hm (fun (x8, b9) => ([(4, .msl 2 2 0 b9.length), (19, .d (.int .i64 x8))] : Fr)) (fun (x8, b9) => ([(2, .flat 133 2 (b9.map Setting.enc))] : List (Nat × Blk))) [4, 19] [3, 17, 18] [0, 1, 2] Q k0 Q Q Q Q Q (fun s z10 hm hz10 => ?_))))))))
  obtain⟨x8,b9⟩:=s
  refine WN [3,4,17,18,19] Q Q (RS (SA TK Q (TN (WN [3,4,17,18,19,20] Q Q (TQ ?_)))))
  refine TC _ Q (fun h11=>?_) (fun h11=>?_)
  ·replace hm:=JT h11 hm
   refine TS (WT (WN [3,4,17,18,19] Q Q (TQ (TB (RS (SA TK Q ?_))))))
   obtain⟨e12,he12,hm⟩:=GV hm
   refine SX Q Q (oG TK Q Q Q Q he12 Q) (SX Q Q (wF TK Q Q Q Q he12.2 Q) (dA 3 Q Q fU Q (SA TK Q (SA TK Q (TN (WN [3,4,5,6,17,18,19] Q Q ?_))))))
   refine aK hm (fun x13=>([(34,.d (.bool (x13)))]:Fr)) (fun x13=>([]:List (Nat×Blk))) [34] [3,4,6,17,18,19] Q (fun z14 hm=>?_) (fun x13 hm=>?_)
   ·refine cN follows  ?_
    iterate 2 (refine DA [0,1,2,3] TK Q ?_)
    refine d_b [0,1,2,3] TK Q (fun q15 hq15=>?_)
    cases q15
    ·replace hm:=JF hq15 hm
     iterate 3 (refine DA [0,1,2,3] TK Q ?_)
     obtain⟨g16,hm⟩:=GI hm
     refine DX [0,1,2,3] Q Q (aV Q Q Q Q g16) ?_
     obtain⟨e17,he17,hm⟩:=GV hm
     refine DX [0,1,2,3] Q Q (oG TK Q Q Q Q he17 Q) (DX [0,1,2,3] Q Q (wF TK Q Q Q Q he17.2 Q) ?_)
     obtain⟨g18,hm⟩:=GI hm
     refine DX [0,1,2,3] Q Q (qNB Q Q Q g18.1 g18.2) (DA [0,1,2,3] TK Q ?_)
     refine DT ?_ (by kernel_rfl)
     refine TN (WT ?_)
     exact⟨_,[0,1,2,3],(SJ hm),Q,k0,Q⟩
    ·replace hm:=JT hq15 hm
     iterate 8 (refine DA [0,1,2,3] TK Q ?_)
     refine DT ?_ (by kernel_rfl)
     refine TN (WT ?_)
     exact⟨_,[0,1,2,3],(SJ hm),Q,k0,Q⟩
   ·refine WN [3,4,6,17,18,19,34] Q Q ?_
    refine TC _ Q (fun h20=>?_) (fun h20=>?_)
    ·replace hm:=JA h20 hm
     refine TG (SA TK Q (SA TK Q (SX Q Q (dW [.tmp 36] TK Q Q fU Q Q Q Q Q) ?_)))
     obtain⟨g21,hm⟩:=GI hm
     refine cT (f:=Setting.enc) ([e12]:List Setting) TK Q Q fU Q Q Q Q Q (fun h=>absurd h (Nat.not_lt_zero _)) Q cR g21 Q Q (SA TK Q (TN (WK (WT (WN [3,4,17,18,19] Q Q (TG ?_))))))
     obtain⟨g22,hm⟩:=GI hm
     refine SX Q Q (aV Q Q Q Q g22) (SA TK Q (TN (WT ?_)))
     exact⟨_,[0,1,2],(SJ hm),Q,k0,Q⟩
    ·replace hm:=JB h20 hm
     refine TS (WK (WT (WN [3,4,17,18,19] Q Q (TG ?_))))
     obtain⟨g23,hm⟩:=GI hm
     refine SX Q Q (aV Q Q Q Q g23) (SA TK Q (TN (WT ?_)))
     exact⟨_,[0,1,2],(SJ hm),Q,k0,Q⟩
  ·replace hm:=JF h11 hm
   refine aJ (WX ?_)
   obtain⟨v24,hm,hz⟩:=II hm
   rw [hz10 _ hz] at hm
   refine WX (WH (WT ?_))
   exact⟨_,[0,1,2],(SJ hm),Q,k0,Q⟩
 ·refine WN [4] Q Q (RS (SA TK Q (SA TK Q (TN (WN [2] Q Q (TR ?_))))))
  obtain rfl:=OJ hm
  exact EndsS.one _ Q (eO Q) (.refl _)

theorem qD {p0:Numbering} {p1:Int} {p2:Int} {r:Int} (hm:gY p0 p1 p2=some r):RetN Tryz.prog 142 [p0.enc,.int .i64 p1,.int .i64 p2] (.int .i64 r):=by
 refine .unit (aQ qUJ Tryz.func142 Q Tryz.ntmps142 Q Q (fun wX gX=>?_)) Q
 unfold gY at hm
 refine WN [0,1,2] Q Q (RS (eR 0 Q Q Q (SA TK Q (TN (WN [1,2,3] Q Q (RS (SA TK Q (SA TK Q (SA TK Q ?_)))))))))
 obtain⟨g1,hm⟩:=GI hm
 refine SX Q Q (aV Q Q Q Q g1) (SA TK Q ?_)
 obtain⟨g2,hm⟩:=GI hm
 refine SX Q Q (aV Q Q Q Q g2) ?_
 obtain⟨g3,hm⟩:=GI hm
 refine SX Q Q (aV Q Q Q Q g3) (SA TK Q ?_)
 obtain⟨g4,hm⟩:=GI hm
 refine SX Q Q (aV Q Q Q Q g4) (SA TK Q (TN (WN [6] Q Q (TR ?_))))
 obtain rfl:=OJ hm
 exact EndsS.one _ Q (.d _) (.refl _)

theorem qC {p0:Route} {p1:Route} {r:Bool} (hm:iV p0 p1=some r):RetN Tryz.prog 162 [p0.enc,p1.enc] (.bool (r)):=by
 refine .unit (aQ qTV Tryz.func162 Q Tryz.ntmps162 Q Q (fun wX gX=>?_)) Q
 unfold iV at hm
 refine WN [0,1] Q Q (RS (eR 0 Q Q Q (eR 1 Q Q Q (SA TK Q (TN (WN [2,3] Q Q ?_))))))
 refine kQ [(4,.d (.bool (((decide ((0:Int)≤p0.exit))&&(decide (p1.entry=p0.exit))))))] [4] [] Q ?_ ?_
 ·refine TG (SA TK Q (SA TK Q (SA TK Q (SB TK Q (fun q1 hq1 => ?_)))))
  cases q1
  ·iterate 7 (refine SA TK Q ?_)
   refine TN (WT ?_)
   exact⟨[0,1],Q,k0,dZ (bS (bT (by simp [hq1])) Q) Q⟩
  ·iterate 7 (refine SA TK Q ?_)
   refine TN (WT ?_)
   exact⟨[0,1],Q,k0,dZ (bS (bT (by simp [hq1])) Q) Q⟩
 ·refine WN [4] Q Q (TR ?_)
  obtain rfl:=OJ hm
  exact EndsS.one _ Q (.d _) (.refl _)

theorem gO {p0:(List Int)} {p1:Int} {r:Bool} (hm:dH p0 p1=some r):RetN Tryz.prog 57 [.sl 1 (p0.map (D.int .i64)),.int .i64 p1] (.bool (r)):=by
 refine .unit (aQ qZF Tryz.func57 Q Tryz.ntmps57 Q Q (fun wX gX=>?_)) Q
 unfold dH at hm
 refine WN [0,1] Q Q (RS (SA TK Q (TN (WN [0,1] Q Q (RS (SA TK Q (SA TK Q ?_)))))))
 obtain⟨r1,hr1,hm⟩:=BI hm
 refine SX Q Q (RN Q Q (SC (.d _) (SC (.d _) SN)) (iX hr1)) (SA TK Q (SA TK Q (TN (WN [4] Q Q (TR ?_)))))
 obtain rfl:=OJ hm
 exact EndsS.one _ Q (.d _) (.refl _)

theorem sP {p0:(List Setting)} {p1:Setting} {r:Int} (hm:hJ p0 p1=some r):RetN Tryz.prog 188 [.sl 2 (p0.map Setting.enc),p1.enc] (.int .i64 r):=by
 refine .unit (aQ qTQ Tryz.func188 Q Tryz.ntmps188 Q Q (fun wX gX=>?_)) Q
 unfold hJ at hm
 refine WN [0,1] Q Q (RS (eR 0 Q Q Q (SA TK Q (TN (WN [0,3] Q Q ?_)))))
 refine dI hm (fun _=>([]:Fr)) (fun _=>([]:List (Nat×Blk))) [] [] Q (fun z1 hm hz1=>?_) (fun j hm=>?_)
 ·refine RS (SA TK Q (SX Q Q (aT TK Q Q Q) (SA TK Q (TN (WN [0, 3, 7, 8] Q Q (TB (aZ hm (fun x3 => ([(8, .d (.int .i64 x3))] : Fr)) (fun x3 => ([] : List (Nat × Blk))) [8] [0, 3, 7] [0] Q k0 Q Q Q Q Q (fun x3 z4 hm hz4 => (WN [0, 3, 7, 8] Q Q ?_)))))))))
  refine RS (SA TK Q (TN (WN [0,3,7,8,9] Q Q (TQ ?_))))
  refine TC _ Q (fun h5=>?_) (fun h5=>?_)
  ·replace hm:=JT h5 hm
   refine TS (WT (WN [0,3,7,8] Q Q (TQ (TB (RS (SA TK Q (SA TK Q (TN (WN [0,3,5,7,8] Q Q ?_)))))))))
   refine cE follows  ?_
   iterate 3 (refine DA [0] TK Q ?_)
   obtain⟨e6,he6,hm⟩:=GV hm
   refine DX [0] Q Q (bZ TK Q Q Q Q he6) (DA [0] TK Q ?_)
   obtain⟨g7,hm⟩:=GI hm
   refine DX [0] Q Q (qEL Q Q Q g7.1 g7.2) ?_
   refine DT ?_ (by kernel_rfl)
   refine TN (WN [0,3,5,7,8,16] Q Q ?_)
   refine TC _ Q (fun h9=>?_) (fun h9=>?_)
   ·replace hm:=JT h9 hm
    refine RS (SA TK Q (SA TK Q (TN (WN [4] Q Q (TR (WB (WR ?_)))))))
    obtain⟨v10,hm,hz⟩:=II hm
    rw [hz4 _ hz] at hm
    refine WR (WB ?_)
    obtain⟨v11,hm,hz⟩:=II hm
    rw [hz1 _ hz] at hm
    refine WR ?_
    obtain rfl:=OJ hm
    exact EndsS.one _ Q (.d _) (.refl _)
   ·replace hm:=JF h9 hm
    refine TS (WK (WT (WN [0,3,7,8] Q Q (TG ?_))))
    obtain⟨g12,hm⟩:=GI hm
    refine SX Q Q (aV Q Q Q Q g12) (SA TK Q (TN (WT ?_)))
    exact⟨_,[0],(SJ hm),Q,k0,Q⟩
  ·replace hm:=JF h5 hm
   refine aJ (WX ?_)
   obtain⟨v13,hm,hz⟩:=II hm
   rw [hz4 _ hz] at hm
   refine WX (WH (WT ?_))
   exact⟨_,[0],(SJ hm),Q,k0,Q⟩
 ·refine WN [] Q Q (RS (SA TK Q (TN (WN [4] Q Q (TR ?_)))))
  obtain rfl:=OJ hm
  exact EndsS.one _ Q (.d _) (.refl _)

theorem jC {p0:(List Setting)} {p1:Setting} {r:Bool} (hm:cV p0 p1=some r):RetN Tryz.prog 171 [.sl 2 (p0.map Setting.enc),p1.enc] (.bool (r)):=by
 refine .unit (aQ qTT Tryz.func171 Q Tryz.ntmps171 Q Q (fun wX gX=>?_)) Q
 unfold cV at hm
 refine WN [0,1] Q Q (RS (eR 0 Q Q Q (SA TK Q (TN (WN [0,3] Q Q (RS (SA TK Q (SA TK Q ?_))))))))
 obtain⟨r1,hr1,hm⟩:=BI hm
 refine SX Q Q (RN Q Q (SC (.d _) (SC (.d _) SN)) (sP hr1)) (SA TK Q (SA TK Q (TN (WN [4] Q Q (TR ?_)))))
 obtain rfl:=OJ hm
 exact EndsS.one _ Q (.d _) (.refl _)

theorem iA {p0:Numbering} {p1:Int} {r:Int} (hm:eB p0 p1=some r):RetN Tryz.prog 37 [p0.enc,.int .i64 p1] (.int .i64 r):=by
 refine .unit (aQ qZZ Tryz.func37 Q Tryz.ntmps37 Q Q (fun wX gX=>?_)) Q
 unfold eB at hm
 refine WN [0,1] Q Q (RS (eR 0 Q Q Q (SA TK Q (TN (WN [1,2] Q Q (RS (SA TK Q (SA TK Q (SA TK Q ?_)))))))))
 obtain⟨g1,hm⟩:=GI hm
 refine SX Q Q (aV Q Q Q Q g1) (SA TK Q (TN (WN [4] Q Q (TR ?_))))
 obtain rfl:=OJ hm
 exact EndsS.one _ Q (.d _) (.refl _)

theorem tZ {p0:Int} {r:ByteArray} (hm:lF p0=some r):RetN Tryz.prog 97 [.int .i64 p0] (.str r):=by
 unfold lF at hm
 obtain⟨h,hm⟩:=GI hm
 obtain rfl:=OJ hm
 obtain⟨i,rfl⟩:=Int.eq_ofNat_of_zero_le h.1
 exact qHK i (by omega)

end Go.Proofs.YtcagmechagiclaaGreatDoor

set_option maxHeartbeats 8000000
set_option linter.unusedSimpArgs false
set_option linter.unusedVariables false
set_option maxRecDepth 20000
namespace Go.Proofs.YtcagmechagiclaaGreatDoor
open Go Go.TL

theorem cU {p0:Int} {p1:(List ByteArray)} {p2:(List ByteArray)} {r:(List ByteArray)} (hm:bP p0 p1 p2=some r):Ret Tryz.prog 96 [.box 28 [.msl 1 1 0 p2.length],.flat 9 1 (p2.map D.str)] (fun j=>Nat.beq j 1) [.d (.int .i64 p0),.d (.sl 1 (p1.map D.str)),.mptr 0 0 0 0] (.tup []) [.box 28 [.msl 1 1 0 r.length],.flat 9 1 (r.map D.str)]:=by
 refine cC qXZ Tryz.func96 Q Tryz.ntmps96 Q Q (fun wX gX=>?_)
 unfold bP at hm
 refine WN [0,1,2] Q Q (RS (SA TK Q (SX Q Q (aT TK Q Q Q) (SA TK Q (TN (WN [0,2,7,8,9] Q Q (TB (aZ hm (fun (x4,b5)=>([(9,.d (.int .i64 x4))]:Fr)) (fun (x4,b5)=>([(0,.box 28 [.msl 1 1 0 b5.length]),(1,.flat 9 1 (b5.map D.str))]:List (Nat×Blk))) [9] [0,2,7,8] [0,1] Q (kB Q) Q Q Q Q Q (fun s z6 hm hz6=>?_)))))))))
 obtain⟨x4,b5⟩:=s
 refine WN [0,2,7,8,9] Q Q (RS (SA TK Q (TN (WN [0,2,7,8,9,10] Q Q (TQ ?_)))))
 refine TC _ Q (fun h7=>?_) (fun h7=>?_)
 ·replace hm:=JT h7 hm
  refine TS (WT (WN [0,2,7,8,9] Q Q (TQ (TB (RS ?_)))))
  obtain⟨e8,he8,hm⟩:=GV hm
  refine SX Q Q (bZ TK Q Q Q Q he8) (SA TK Q (SA TK Q (TN (WN [0,2,6,7,8,9] Q Q (cN follows  ?_)))))
  iterate 2 (refine DA [0,1] TK Q ?_)
  obtain⟨g9,hm⟩:=GI hm
  refine DX [0,1] Q Q (qBS Q Q Q g9) (DA [0,1] TK Q ?_)
  obtain⟨r10,hr10,hm⟩:=BI hm
  refine DX [0,1] Q Q (RN Q Q (SC (.d _) SN) (tZ hr10)) ?_
  obtain⟨g11,hm⟩:=GI hm
  refine DX [0,1] Q Q (qBS Q Q Q g11) (DX [0,1] Q Q (dW [.tmp 18] TK Q Q eM Q Q Q Q Q) ?_)
  refine DT ?_ (by kernel_rfl)
  obtain⟨g12,hm⟩:=GI hm
  refine cT (f:=D.str) ([((e8++(⟨#[46]⟩:ByteArray))++r10)]:List ByteArray) TK Q Q eM Q Q Q Q Q (fun _=>Q) Q cR g12 Q Q (SA TK Q (TN (WK (WT (WN [0,2,7,8,9] Q Q (TG ?_))))))
  obtain⟨g13,hm⟩:=GI hm
  refine SX Q Q (aV Q Q Q Q g13) (SA TK Q (TN (WT ?_)))
  exact⟨_,[0,1],(SJ hm),Q,(kB Q),Q⟩
 ·replace hm:=JF h7 hm
  refine aJ (WX ?_)
  obtain⟨v14,hm,hz⟩:=II hm
  rw [hz6 _ hz] at hm
  refine WX (WH ?_)
  obtain rfl:=OJ hm
  exact⟨_,[0,1],res Q,by decide,(kB Q),Q,Q⟩

theorem qM {p0:Numbering} {r:(List ByteArray)} (hm:fZ p0=some r):RetD Tryz.prog 42 [p0.enc] (.sl 1 (r.map D.str)):=by
 refine .of (mv:=fun _=>false) (aQ qZU Tryz.func42 Q Tryz.ntmps42 Q Q (fun wX gX=>?_))
 unfold fZ at hm
 refine WN [0] Q Q (RS (eR 0 Q Q Q (SA TK Q (TN (WN [1] Q Q (RS (dA 1 Q Q zero28 Q (jR (f:=D.str) 1 0 2 9 1 Q Q Q ?_))))))))
 refine TN (WN [1,3] Q Q (RS (SX Q Q (qAJ Q) (SA TK Q (TN (WN [1,3,4] Q Q ?_))))))
 refine aK hm (fun b1=>([]:Fr)) (fun b1=>([(1,.box 28 [.msl 2 1 0 b1.length]),(2,.flat 9 1 (b1.map D.str))]:List (Nat×Blk))) [] [1,3,4] Q (fun z2 hm=>?_) (fun b1 hm=>?_)
 ·refine RS ?_
  iterate 4 (refine SA TK Q ?_)
  refine TN (WN [1,3,4,15,16] Q Q (TB (aZ hm (fun (x6,b7)=>([(16,.d (.int .i64 x6))]:Fr)) (fun (x6,b7)=>([(1,.box 28 [.msl 2 1 0 b7.length]),(2,.flat 9 1 (b7.map D.str))]:List (Nat×Blk))) [16] [1,3,4,15] [0,1,2] Q k0 Q Q Q Q Q (fun s z8 hm hz8=>?_))))
  obtain⟨x6,b7⟩:=s
  refine WN [1,3,4,15,16] Q Q (RS (SA TK Q (TN (WN [1,3,4,15,16,17] Q Q (TQ ?_)))))
  refine TC _ Q (fun h9=>?_) (fun h9=>?_)
  ·replace hm:=JT h9 hm
   refine TS (WT (WN [1,3,4,15,16] Q Q (TQ (TB (RS (SA TK Q (SA TK Q (TN (WN [1,3,4,5,15,16] Q Q ?_)))))))))
   refine TG (SA TK Q (SA TK Q (SX Q Q (dW [.const (Value.string ⟨#[102,114,101,101]⟩),.const (Value.string ⟨#[111,112,101,110]⟩)] TK Q Q eM Q Q Q Q Q) ?_)))
   obtain⟨r10,hr10,hm⟩:=BI hm
   refine dE [1,2] (fun j=>Nat.beq j 1) Q Q Q (by decide) Q Q Q Q (cU hr10) Q Q Q ?_
   refine TN (WK (WT (WN [1,3,4,15,16] Q Q (TG ?_))))
   obtain⟨g11,hm⟩:=GI hm
   refine SX Q Q (aV Q Q Q Q g11) (SA TK Q (TN (WT ?_)))
   exact⟨_,[0,1,2],(SJ hm),Q,k0,Q⟩
  ·replace hm:=JF h9 hm
   refine aJ (WX ?_)
   obtain⟨v12,hm,hz⟩:=II hm
   rw [hz8 _ hz] at hm
   refine WX (WH (WT ?_))
   exact⟨_,[0,1,2],(SJ hm),Q,k0,Q⟩
 ·refine WN [1,3,4] Q Q ?_
  refine aK hm (fun b13=>([]:Fr)) (fun b13=>([(1,.box 28 [.msl 2 1 0 b13.length]),(2,.flat 9 1 (b13.map D.str))]:List (Nat×Blk))) [] [1,3,4] Q (fun z14 hm=>?_) (fun b13 hm=>?_)
  ·refine RS (SA TK Q (SA TK Q (SA TK Q (SX Q Q (aT TK Q Q Q) (SA TK Q (TN (WN [1, 3, 4, 27, 28] Q Q (TB (aZ hm (fun (x18, b19) => ([(28, .d (.int .i64 x18))] : Fr)) (fun (x18, b19) => ([(1, .box 28 [.msl 2 1 0 b19.length]), (2, .flat 9 1 (b19.map D.str))] : List (Nat × Blk))) [28] [1, 3, 4, 27] [0, 1, 2] Q k0 Q Q Q Q Q (fun s z20 hm hz20 => ?_))))))))))
   obtain⟨x18,b19⟩:=s
   refine WN [1,3,4,27,28] Q Q (RS (SA TK Q (TN (WN [1,3,4,27,28,29] Q Q (TQ ?_)))))
   refine TC _ Q (fun h21=>?_) (fun h21=>?_)
   ·replace hm:=JT h21 hm
    refine TS (WT (WN [1,3,4,27,28] Q Q (TQ (TB (RS (SA TK Q (SA TK Q (TN (WN [1,3,4,6,27,28] Q Q ?_)))))))))
    refine TG (SA TK Q (SA TK Q (SX Q Q (dW [.const (Value.string ⟨#[110,111,114,109,97,108]⟩),.const (Value.string ⟨#[114,101,118,101,114,115,101]⟩)] TK Q Q eM Q Q Q Q Q) ?_)))
    obtain⟨r22,hr22,hm⟩:=BI hm
    refine dE [1,2] (fun j=>Nat.beq j 1) Q Q Q (by decide) Q Q Q Q (cU hr22) Q Q Q ?_
    refine TN (WK (WT (WN [1,3,4,27,28] Q Q (TG ?_))))
    obtain⟨g23,hm⟩:=GI hm
    refine SX Q Q (aV Q Q Q Q g23) (SA TK Q (TN (WT ?_)))
    exact⟨_,[0,1,2],(SJ hm),Q,k0,Q⟩
   ·replace hm:=JF h21 hm
    refine aJ (WX ?_)
    obtain⟨v24,hm,hz⟩:=II hm
    rw [hz20 _ hz] at hm
    refine WX (WH (WT ?_))
    exact⟨_,[0,1,2],(SJ hm),Q,k0,Q⟩
  ·refine WN [1,3,4] Q Q ?_
   refine aK hm (fun b25=>([]:Fr)) (fun b25=>([(1,.box 28 [.msl 2 1 0 b25.length]),(2,.flat 9 1 (b25.map D.str))]:List (Nat×Blk))) [] [1,3,4] Q (fun z26 hm=>?_) (fun b25 hm=>?_)
   ·refine RS (SA TK Q (SA TK Q (SA TK Q (SX Q Q (aT TK Q Q Q) (SA TK Q (TN (WN [1, 3, 4, 39, 40] Q Q (TB (aZ hm (fun (x30, b31) => ([(40, .d (.int .i64 x30))] : Fr)) (fun (x30, b31) => ([(1, .box 28 [.msl 2 1 0 b31.length]), (2, .flat 9 1 (b31.map D.str))] : List (Nat × Blk))) [40] [1, 3, 4, 39] [0, 1, 2] Q k0 Q Q Q Q Q (fun s z32 hm hz32 => ?_))))))))))
    obtain⟨x30,b31⟩:=s
    refine WN [1,3,4,39,40] Q Q (RS (SA TK Q (TN (WN [1,3,4,39,40,41] Q Q (TQ ?_)))))
    refine TC _ Q (fun h33=>?_) (fun h33=>?_)
    ·replace hm:=JT h33 hm
     refine TS (WT (WN [1,3,4,39,40] Q Q (TQ (TB (RS (SA TK Q (SA TK Q (TN (WN [1,3,4,7,39,40] Q Q ?_)))))))))
     refine TG (SA TK Q (SA TK Q (SX Q Q (dW [.const (Value.string ⟨#[117,110,99,108,97,105,109,101,100]⟩),.const (Value.string ⟨#[112,97,115,115,101,100]⟩),.const (Value.string ⟨#[99,97,108,108]⟩),.const (Value.string ⟨#[99,97,110,99,101,108]⟩)] TK Q Q eM Q Q Q Q Q) ?_)))
     obtain⟨r34,hr34,hm⟩:=BI hm
     refine dE [1,2] (fun j=>Nat.beq j 1) Q Q Q (by decide) Q Q Q Q (cU hr34) Q Q Q ?_
     refine TN (WK (WT (WN [1,3,4,39,40] Q Q (TG ?_))))
     obtain⟨g35,hm⟩:=GI hm
     refine SX Q Q (aV Q Q Q Q g35) (SA TK Q (TN (WT ?_)))
     exact⟨_,[0,1,2],(SJ hm),Q,k0,Q⟩
    ·replace hm:=JF h33 hm
     refine aJ (WX ?_)
     obtain⟨v36,hm,hz⟩:=II hm
     rw [hz32 _ hz] at hm
     refine WX (WH (WT ?_))
     exact⟨_,[0,1,2],(SJ hm),Q,k0,Q⟩
   ·refine WN [1,3,4] Q Q ?_
    refine aK hm (fun b37=>([]:Fr)) (fun b37=>([(1,.box 28 [.msl 2 1 0 b37.length]),(2,.flat 9 1 (b37.map D.str))]:List (Nat×Blk))) [] [1,3,4] Q (fun z38 hm=>?_) (fun b37 hm=>?_)
    ·refine RS (SA TK Q (SA TK Q (SA TK Q (SX Q Q (aT TK Q Q Q) (SA TK Q (TN (WN [1, 3, 4, 51, 52] Q Q (TB (aZ hm (fun (x42, b43) => ([(52, .d (.int .i64 x42))] : Fr)) (fun (x42, b43) => ([(1, .box 28 [.msl 2 1 0 b43.length]), (2, .flat 9 1 (b43.map D.str))] : List (Nat × Blk))) [52] [1, 3, 4, 51] [0, 1, 2] Q k0 Q Q Q Q Q (fun s z44 hm hz44 => ?_))))))))))
     obtain⟨x42,b43⟩:=s
     refine WN [1,3,4,51,52] Q Q (RS (SA TK Q (TN (WN [1,3,4,51,52,53] Q Q (TQ ?_)))))
     refine TC _ Q (fun h45=>?_) (fun h45=>?_)
     ·replace hm:=JT h45 hm
      refine TS (WT (WN [1,3,4,51,52] Q Q (TQ (TB (RS (SA TK Q (SA TK Q (TN (WN [1,3,4,8,51,52] Q Q ?_)))))))))
      refine TG (SA TK Q (SA TK Q (SX Q Q (dW [.const (Value.string ⟨#[108,105,101]⟩)] TK Q Q eM Q Q Q Q Q) ?_)))
      obtain⟨r46,hr46,hm⟩:=BI hm
      refine dE [1,2] (fun j=>Nat.beq j 1) Q Q Q (by decide) Q Q Q Q (cU hr46) Q Q Q ?_
      refine TN (WK (WT (WN [1,3,4,51,52] Q Q (TG ?_))))
      obtain⟨g47,hm⟩:=GI hm
      refine SX Q Q (aV Q Q Q Q g47) (SA TK Q (TN (WT ?_)))
      exact⟨_,[0,1,2],(SJ hm),Q,k0,Q⟩
     ·replace hm:=JF h45 hm
      refine aJ (WX ?_)
      obtain⟨v48,hm,hz⟩:=II hm
      rw [hz44 _ hz] at hm
      refine WX (WH (WT ?_))
      exact⟨_,[0,1,2],(SJ hm),Q,k0,Q⟩
    ·refine WN [1,3,4] Q Q ?_
     refine aK hm (fun b49=>([]:Fr)) (fun b49=>([(1,.box 28 [.msl 2 1 0 b49.length]),(2,.flat 9 1 (b49.map D.str))]:List (Nat×Blk))) [] [1,3,4] Q (fun z50 hm=>?_) (fun b49 hm=>?_)
     ·refine RS (SA TK Q (SA TK Q (SA TK Q (SX Q Q (aT TK Q Q Q) (SA TK Q (TN (WN [1, 3, 4, 63, 64] Q Q (TB (aZ hm (fun (x54, b55) => ([(64, .d (.int .i64 x54))] : Fr)) (fun (x54, b55) => ([(1, .box 28 [.msl 2 1 0 b55.length]), (2, .flat 9 1 (b55.map D.str))] : List (Nat × Blk))) [64] [1, 3, 4, 63] [0, 1, 2] Q k0 Q Q Q Q Q (fun s z56 hm hz56 => ?_))))))))))
      obtain⟨x54,b55⟩:=s
      refine WN [1,3,4,63,64] Q Q (RS (SA TK Q (TN (WN [1,3,4,63,64,65] Q Q (TQ ?_)))))
      refine TC _ Q (fun h57=>?_) (fun h57=>?_)
      ·replace hm:=JT h57 hm
       refine TS (WT (WN [1,3,4,63,64] Q Q ?_))
       refine aK hm (fun b58=>([]:Fr)) (fun b58=>([(1,.box 28 [.msl 2 1 0 b58.length]),(2,.flat 9 1 (b58.map D.str))]:List (Nat×Blk))) [] [1,3,4,63,64] Q (fun z59 hm=>?_) (fun b58 hm=>?_)
       ·refine TB (RS (SA TK Q (SA TK Q (TN (WN [1,3,4,9,63,64] Q Q (RS (SA TK Q (SA TK Q (SX Q Q (dW [.const (Value.string ⟨#[115,101,116]⟩),.const (Value.string ⟨#[99,108,101,97,114]⟩),.const (Value.string ⟨#[117,115,101,100]⟩),.const (Value.string ⟨#[104,101,108,100]⟩)] TK Q Q eM Q Q Q Q Q) ?_)))))))))
        obtain⟨r60,hr60,hm⟩:=BI hm
        refine dE [1,2] (fun j=>Nat.beq j 1) Q Q Q (by decide) Q Q Q Q (cU hr60) Q Q Q ?_
        refine TN (WN [1,3,4,9,63,64] Q Q ?_)
        refine aK hm (fun b61=>([]:Fr)) (fun b61=>([(1,.box 28 [.msl 2 1 0 b61.length]),(2,.flat 9 1 (b61.map D.str))]:List (Nat×Blk))) [] [1,3,4,9,63,64] Q (fun z62 hm=>?_) (fun b61 hm=>?_)
        ·refine RS (SA TK Q (SA TK Q ?_))
         obtain⟨r63,hr63,hm⟩:=BI hm
         refine SX Q Q (RN Q Q (SC (.d _) (SC (.d _) SN)) (bW hr63)) (SA TK Q (TN (WN [1,3,4,9,63,64,73,74] Q Q (TB (aZ hm (fun (x67,b68)=>([(74,.d (.int .i64 x67))]:Fr)) (fun (x67,b68)=>([(1,.box 28 [.msl 2 1 0 b68.length]),(2,.flat 9 1 (b68.map D.str))]:List (Nat×Blk))) [74] [1,3,4,9,63,64,73] [0,1,2] Q k0 Q Q Q Q Q (fun s z69 hm hz69=>?_))))))
         obtain⟨x67,b68⟩:=s
         refine WN [1,3,4,9,63,64,73,74] Q Q (RS (SA TK Q (TN (WN [1,3,4,9,63,64,73,74,75] Q Q (TQ ?_)))))
         refine TC _ Q (fun h70=>?_) (fun h70=>?_)
         ·replace hm:=JT h70 hm
          refine TS (WT (WN [1,3,4,9,63,64,73,74] Q Q (TQ (TB (RS (SA TK Q (SA TK Q (TN (WN [1,3,4,9,10,63,64,73,74] Q Q ?_)))))))))
          refine TG (SA TK Q (SA TK Q (SA TK Q ?_)))
          obtain⟨r71,hr71,hm⟩:=BI hm
          refine SX Q Q (RN Q Q (SC (.d _) SN) (tZ hr71)) ?_
          obtain⟨g72,hm⟩:=GI hm
          refine SX Q Q (qBS Q Q Q g72) (SX Q Q (dW [.tmp 81] TK Q Q eM Q Q Q Q Q) ?_)
          obtain⟨r73,hr73,hm⟩:=BI hm
          refine dE [1,2] (fun j=>Nat.beq j 1) Q Q Q (by decide) Q Q Q Q (cU hr73) Q Q Q ?_
          refine TN (WK (WT (WN [1,3,4,9,63,64,73,74] Q Q (TG ?_))))
          obtain⟨g74,hm⟩:=GI hm
          refine SX Q Q (aV Q Q Q Q g74) (SA TK Q (TN (WT ?_)))
          exact⟨_,[0,1,2],(SJ hm),Q,k0,Q⟩
         ·replace hm:=JF h70 hm
          refine aJ (WX ?_)
          obtain⟨v75,hm,hz⟩:=II hm
          rw [hz69 _ hz] at hm
          refine WX (WH (WT ?_))
          exact⟨_,[0,1,2],(SJ hm),Q,k0,Q⟩
        ·refine WN [1,3,4,9,63,64] Q Q (TG (SA TK Q (SA TK Q (SX Q Q (dW [.const (Value.string ⟨#[119,97,105,116]⟩),.const (Value.string ⟨#[115,116,97,110,100]⟩)] TK Q Q eM Q Q Q Q Q) ?_))))
         obtain⟨r76,hr76,hm⟩:=BI hm
         refine dE [1,2] (fun j=>Nat.beq j 1) Q Q Q (by decide) Q Q Q Q (cU hr76) Q Q Q ?_
         refine TN (WK (WT ?_))
         exact⟨_,[0,1,2],(SJ hm),Q,k0,Q⟩
       ·refine WN [1,3,4,63,64] Q Q (TG ?_)
        obtain⟨g77,hm⟩:=GI hm
        refine SX Q Q (aV Q Q Q Q g77) (SA TK Q (TN (WT ?_)))
        exact⟨_,[0,1,2],(SJ hm),Q,k0,Q⟩
      ·replace hm:=JF h57 hm
       refine aJ (WX ?_)
       obtain⟨v78,hm,hz⟩:=II hm
       rw [hz56 _ hz] at hm
       refine WX (WH (WT ?_))
       exact⟨_,[0,1,2],(SJ hm),Q,k0,Q⟩
     ·refine WN [1,3,4] Q Q ?_
      refine aK hm (fun b79=>([]:Fr)) (fun b79=>([(1,.box 28 [.msl 2 1 0 b79.length]),(2,.flat 9 1 (b79.map D.str))]:List (Nat×Blk))) [] [3] Q (fun z80 hm=>?_) (fun b79 hm=>?_)
      ·refine RS (SA TK Q (SA TK Q (SA TK Q (SX Q Q (aT TK Q Q Q) (SA TK Q (TN (WN [3, 4, 93, 94] Q Q (TB (aZ hm (fun (x84, b85) => ([(94, .d (.int .i64 x84))] : Fr)) (fun (x84, b85) => ([(1, .box 28 [.msl 2 1 0 b85.length]), (2, .flat 9 1 (b85.map D.str))] : List (Nat × Blk))) [94] [3, 4, 93] [0, 1, 2] Q k0 Q Q Q Q Q (fun s z86 hm hz86 => ?_))))))))))
       obtain⟨x84,b85⟩:=s
       refine WN [3,4,93,94] Q Q (RS (SA TK Q (TN (WN [3,4,93,94,95] Q Q (TQ ?_)))))
       refine TC _ Q (fun h87=>?_) (fun h87=>?_)
       ·replace hm:=JT h87 hm
        refine TS (WT (WN [3,4,93,94] Q Q (TQ (TB (RS (SA TK Q (SA TK Q (TN (WN [3,4,11,93,94] Q Q ?_)))))))))
        refine TG (SA TK Q (SA TK Q (SX Q Q (dW [.const (Value.string ⟨#[107,101,101,112]⟩),.const (Value.string ⟨#[117,115,101]⟩),.const (Value.string ⟨#[104,111,108,100]⟩),.const (Value.string ⟨#[97,99,116]⟩),.const (Value.string ⟨#[99,97,108,108,101,100]⟩)] TK Q Q eM Q Q Q Q Q) ?_)))
        obtain⟨r88,hr88,hm⟩:=BI hm
        refine dE [1,2] (fun j=>Nat.beq j 1) Q Q Q (by decide) Q Q Q Q (cU hr88) Q Q Q ?_
        refine TN (WK (WT (WN [3,4,93,94] Q Q (TG ?_))))
        obtain⟨g89,hm⟩:=GI hm
        refine SX Q Q (aV Q Q Q Q g89) (SA TK Q (TN (WT ?_)))
        exact⟨_,[0,1,2],(SJ hm),Q,k0,Q⟩
       ·replace hm:=JF h87 hm
        refine aJ (WX ?_)
        obtain⟨v90,hm,hz⟩:=II hm
        rw [hz86 _ hz] at hm
        refine WX (WH (WT ?_))
        exact⟨_,[0,1,2],(SJ hm),Q,k0,Q⟩
      ·refine WN [3] Q Q (RS (SA TK Q (SA TK Q (TN (WN [2] Q Q (TR ?_))))))
       obtain rfl:=OJ hm
       exact EndsS.one _ Q (eO Q) (.refl _)

theorem bX {p0:Builder} {p1:Int} {p2:Int} {r:Expr} (hm:bJ p0 p1 p2=some r):Ret Tryz.prog 80 [.box 81 [.d (.sl 14 (p0.numbering.t.routes.map Route.enc)),.d (.sl 1 (p0.numbering.t.points.map (D.int .i64))),.d (.sl 1 (p0.numbering.t.homes.map (D.int .i64))),.d (.int .i64 p0.numbering.t.sections),.d (.int .i64 p0.numbering.t.signals),.d (.int .i64 p0.numbering.inputs),.d (.sl 1 (p0.numbering.bases.map (D.int .i64))),.d (.int .i64 p0.numbering.extra),.d (.int .i64 p0.numbering.count),.msl 1 6 0 p0.rungs.length],.flat 40 6 (p0.rungs.map Rung.enc)] (fun _=>false) [.mptr 0 0 0 0,.d (.int .i64 p1),.d (.int .i64 p2)] (.d (r.enc)) [.box 81 [.d (.sl 14 (p0.numbering.t.routes.map Route.enc)),.d (.sl 1 (p0.numbering.t.points.map (D.int .i64))),.d (.sl 1 (p0.numbering.t.homes.map (D.int .i64))),.d (.int .i64 p0.numbering.t.sections),.d (.int .i64 p0.numbering.t.signals),.d (.int .i64 p0.numbering.inputs),.d (.sl 1 (p0.numbering.bases.map (D.int .i64))),.d (.int .i64 p0.numbering.extra),.d (.int .i64 p0.numbering.count),.msl 1 6 0 p0.rungs.length],.flat 40 6 (p0.rungs.map Rung.enc)]:=by
 refine cC qYP Tryz.func80 Q Tryz.ntmps80 Q Q (fun wX gX=>?_)
 unfold bJ at hm
 refine WN [0,1,2] Q Q (RS (dA 2 Q Q aH Q (cO 2 [none,none,some 3] Q Q (TN (WN [0,1,2,6] Q Q (RS ?_))))))
 iterate 6 (refine SA TK Q ?_)
 obtain⟨r1,hr1,hm⟩:=BI hm
 refine SX Q Q (RN Q Q (SC (.d _) (SC (.d _) (SC (.d _) SN))) (cH hr1)) ?_
 obtain⟨r2,hr2,hm⟩:=BI hm
 refine SX Q Q (RD Q Q Q (bV hr2)) (SA TK Q (TN (WN [6] Q Q (TR ?_))))
 obtain rfl:=OJ hm
 exact⟨_,[0,1],.mk _ (.cons (.agg (TK.lay Q) Q Q Q Q) .nil) Q,by decide,(kB Q),Q,Q⟩

theorem bY {p0:Builder} {p1:Int} {p2:Int} {r:Expr} (hm:bN p0 p1 p2=some r):Ret Tryz.prog 81 [.box 81 [.d (.sl 14 (p0.numbering.t.routes.map Route.enc)),.d (.sl 1 (p0.numbering.t.points.map (D.int .i64))),.d (.sl 1 (p0.numbering.t.homes.map (D.int .i64))),.d (.int .i64 p0.numbering.t.sections),.d (.int .i64 p0.numbering.t.signals),.d (.int .i64 p0.numbering.inputs),.d (.sl 1 (p0.numbering.bases.map (D.int .i64))),.d (.int .i64 p0.numbering.extra),.d (.int .i64 p0.numbering.count),.msl 1 6 0 p0.rungs.length],.flat 40 6 (p0.rungs.map Rung.enc)] (fun _=>false) [.mptr 0 0 0 0,.d (.int .i64 p1),.d (.int .i64 p2)] (.d (r.enc)) [.box 81 [.d (.sl 14 (p0.numbering.t.routes.map Route.enc)),.d (.sl 1 (p0.numbering.t.points.map (D.int .i64))),.d (.sl 1 (p0.numbering.t.homes.map (D.int .i64))),.d (.int .i64 p0.numbering.t.sections),.d (.int .i64 p0.numbering.t.signals),.d (.int .i64 p0.numbering.inputs),.d (.sl 1 (p0.numbering.bases.map (D.int .i64))),.d (.int .i64 p0.numbering.extra),.d (.int .i64 p0.numbering.count),.msl 1 6 0 p0.rungs.length],.flat 40 6 (p0.rungs.map Rung.enc)]:=by
 refine cC qYO Tryz.func81 Q Tryz.ntmps81 Q Q (fun wX gX=>?_)
 unfold bN at hm
 refine WN [0,1,2] Q Q (RS (dA 2 Q Q aH Q (cO 2 [none,none,some 3] Q Q (TN (WN [0,1,2,6] Q Q (RS ?_))))))
 iterate 6 (refine SA TK Q ?_)
 obtain⟨r1,hr1,hm⟩:=BI hm
 refine SX Q Q (RN Q Q (SC (.d _) (SC (.d _) (SC (.d _) SN))) (pG hr1)) ?_
 obtain⟨r2,hr2,hm⟩:=BI hm
 refine SX Q Q (RD Q Q Q (bV hr2)) (SA TK Q (TN (WN [6] Q Q (TR ?_))))
 obtain rfl:=OJ hm
 exact⟨_,[0,1],.mk _ (.cons (.agg (TK.lay Q) Q Q Q Q) .nil) Q,by decide,(kB Q),Q,Q⟩

theorem eV {p0:Builder} {p1:Int} {p2:Int} {r:Expr} (hm:cM p0 p1 p2=some r):Ret Tryz.prog 90 [.box 81 [.d (.sl 14 (p0.numbering.t.routes.map Route.enc)),.d (.sl 1 (p0.numbering.t.points.map (D.int .i64))),.d (.sl 1 (p0.numbering.t.homes.map (D.int .i64))),.d (.int .i64 p0.numbering.t.sections),.d (.int .i64 p0.numbering.t.signals),.d (.int .i64 p0.numbering.inputs),.d (.sl 1 (p0.numbering.bases.map (D.int .i64))),.d (.int .i64 p0.numbering.extra),.d (.int .i64 p0.numbering.count),.msl 1 6 0 p0.rungs.length],.flat 40 6 (p0.rungs.map Rung.enc)] (fun _=>false) [.mptr 0 0 0 0,.d (.int .i64 p1),.d (.int .i64 p2)] (.d (r.enc)) [.box 81 [.d (.sl 14 (p0.numbering.t.routes.map Route.enc)),.d (.sl 1 (p0.numbering.t.points.map (D.int .i64))),.d (.sl 1 (p0.numbering.t.homes.map (D.int .i64))),.d (.int .i64 p0.numbering.t.sections),.d (.int .i64 p0.numbering.t.signals),.d (.int .i64 p0.numbering.inputs),.d (.sl 1 (p0.numbering.bases.map (D.int .i64))),.d (.int .i64 p0.numbering.extra),.d (.int .i64 p0.numbering.count),.msl 1 6 0 p0.rungs.length],.flat 40 6 (p0.rungs.map Rung.enc)]:=by
 refine cC qYF Tryz.func90 Q Tryz.ntmps90 Q Q (fun wX gX=>?_)
 unfold cM at hm
 refine WN [0,1,2] Q Q (RS (dA 2 Q Q aH Q (cO 2 [none,none,some 3] Q Q (TN (WN [0,1,2,6] Q Q (RS ?_))))))
 iterate 6 (refine SA TK Q ?_)
 obtain⟨g1,hm⟩:=GI hm
 refine SX Q Q (aV Q Q Q Q g1) ?_
 obtain⟨r2,hr2,hm⟩:=BI hm
 refine SX Q Q (RN Q Q (SC (.d _) (SC (.d _) (SC (.d _) SN))) (cH hr2)) ?_
 obtain⟨r3,hr3,hm⟩:=BI hm
 refine SX Q Q (RD Q Q Q (bV hr3)) (SA TK Q (TN (WN [6] Q Q (TR ?_))))
 obtain rfl:=OJ hm
 exact⟨_,[0,1],.mk _ (.cons (.agg (TK.lay Q) Q Q Q Q) .nil) Q,by decide,(kB Q),Q,Q⟩

theorem cK {p0:Builder} {p1:Int} {r:Expr} (hm:bQ p0 p1=some r):Ret Tryz.prog 86 [.box 81 [.d (.sl 14 (p0.numbering.t.routes.map Route.enc)),.d (.sl 1 (p0.numbering.t.points.map (D.int .i64))),.d (.sl 1 (p0.numbering.t.homes.map (D.int .i64))),.d (.int .i64 p0.numbering.t.sections),.d (.int .i64 p0.numbering.t.signals),.d (.int .i64 p0.numbering.inputs),.d (.sl 1 (p0.numbering.bases.map (D.int .i64))),.d (.int .i64 p0.numbering.extra),.d (.int .i64 p0.numbering.count),.msl 1 6 0 p0.rungs.length],.flat 40 6 (p0.rungs.map Rung.enc)] (fun _=>false) [.mptr 0 0 0 0,.d (.int .i64 p1)] (.d (r.enc)) [.box 81 [.d (.sl 14 (p0.numbering.t.routes.map Route.enc)),.d (.sl 1 (p0.numbering.t.points.map (D.int .i64))),.d (.sl 1 (p0.numbering.t.homes.map (D.int .i64))),.d (.int .i64 p0.numbering.t.sections),.d (.int .i64 p0.numbering.t.signals),.d (.int .i64 p0.numbering.inputs),.d (.sl 1 (p0.numbering.bases.map (D.int .i64))),.d (.int .i64 p0.numbering.extra),.d (.int .i64 p0.numbering.count),.msl 1 6 0 p0.rungs.length],.flat 40 6 (p0.rungs.map Rung.enc)]:=by
 refine cC qYJ Tryz.func86 Q Tryz.ntmps86 Q Q (fun wX gX=>?_)
 unfold bQ at hm
 refine WN [0,1] Q Q (RS (dA 2 Q Q aH Q (cO 2 [none,none,some 3] Q Q (TN (WN [0,1,4] Q Q (RS ?_))))))
 iterate 5 (refine SA TK Q ?_)
 obtain⟨r1,hr1,hm⟩:=BI hm
 refine SX Q Q (RN Q Q (SC (.d _) (SC (.d _) (SC (.d _) SN))) (kO hr1)) ?_
 obtain⟨r2,hr2,hm⟩:=BI hm
 refine SX Q Q (RD Q Q Q (bV hr2)) (SA TK Q (TN (WN [4] Q Q (TR ?_))))
 obtain rfl:=OJ hm
 exact⟨_,[0,1],.mk _ (.cons (.agg (TK.lay Q) Q Q Q Q) .nil) Q,by decide,(kB Q),Q,Q⟩

theorem jE {p0:Builder} {p1:Int} {r:Expr} (hm:eG p0 p1=some r):Ret Tryz.prog 82 [.box 81 [.d (.sl 14 (p0.numbering.t.routes.map Route.enc)),.d (.sl 1 (p0.numbering.t.points.map (D.int .i64))),.d (.sl 1 (p0.numbering.t.homes.map (D.int .i64))),.d (.int .i64 p0.numbering.t.sections),.d (.int .i64 p0.numbering.t.signals),.d (.int .i64 p0.numbering.inputs),.d (.sl 1 (p0.numbering.bases.map (D.int .i64))),.d (.int .i64 p0.numbering.extra),.d (.int .i64 p0.numbering.count),.msl 1 6 0 p0.rungs.length],.flat 40 6 (p0.rungs.map Rung.enc)] (fun _=>false) [.mptr 0 0 0 0,.d (.int .i64 p1)] (.d (r.enc)) [.box 81 [.d (.sl 14 (p0.numbering.t.routes.map Route.enc)),.d (.sl 1 (p0.numbering.t.points.map (D.int .i64))),.d (.sl 1 (p0.numbering.t.homes.map (D.int .i64))),.d (.int .i64 p0.numbering.t.sections),.d (.int .i64 p0.numbering.t.signals),.d (.int .i64 p0.numbering.inputs),.d (.sl 1 (p0.numbering.bases.map (D.int .i64))),.d (.int .i64 p0.numbering.extra),.d (.int .i64 p0.numbering.count),.msl 1 6 0 p0.rungs.length],.flat 40 6 (p0.rungs.map Rung.enc)]:=by
 refine cC qYN Tryz.func82 Q Tryz.ntmps82 Q Q (fun wX gX=>?_)
 unfold eG at hm
 refine WN [0,1] Q Q (RS (dA 2 Q Q aH Q (cO 2 [none,none,some 3] Q Q (TN (WN [0,1,4] Q Q (RS (jD (f:=Expr.encR) 3 38 3 Q Q Q (TN ?_))))))))
 refine WN [0,1,4,5] Q Q ?_
 refine aK hm (fun b1=>([(5,.msl 3 3 0 b1.length)]:Fr)) (fun b1=>([(3,.flat 38 3 (b1.map Expr.encR))]:List (Nat×Blk))) [5] [4] Q (fun z2 hm=>?_) (fun b1 hm=>?_)
 ·refine RS ?_
  iterate 7 (refine SA TK Q ?_)
  obtain⟨e3,he3,hm⟩:=GV hm
  refine SX Q Q (bZ TK Q Q Q Q he3) (SA TK Q (SA TK Q (SX Q Q (aT TK Q Q Q) (SA TK Q (TN (WN [0,1,4,5,17,18,19] Q Q (TB (aZ hm (fun (x7,b8)=>([(5,.msl 3 3 0 b8.length),(19,.d (.int .i64 x7))]:Fr)) (fun (x7,b8)=>([(3,.flat 38 3 (b8.map Expr.encR))]:List (Nat×Blk))) [5,19] [0,1,4,17,18] [0,1,2,3] Q (kB Q) Q Q Q Q Q (fun s z9 hm hz9=>?_)))))))))
  obtain⟨x7,b8⟩:=s
  refine WN [0,1,4,5,17,18,19] Q Q (RS (SA TK Q (TN (WN [0,1,4,5,17,18,19,20] Q Q (TQ ?_)))))
  refine TC _ Q (fun h10=>?_) (fun h10=>?_)
  ·replace hm:=JT h10 hm
   refine TS (WT (WN [0,1,4,5,17,18,19] Q Q (TQ (TB (RS (SA TK Q ?_))))))
   obtain⟨e11,he11,hm⟩:=GV hm
   refine SX Q Q (bZ TK Q Q Q Q he11) (SA TK Q (SA TK Q (SA TK Q (TN (WN [0,1,4,5,6,7,17,18,19] Q Q (RS ?_))))))
   iterate 6 (refine SA TK Q ?_)
   obtain⟨r12,hr12,hm⟩:=BI hm
   refine SX Q Q (RN Q Q (SC (.d _) (SC (.d _) SN)) (bW hr12)) (SA TK Q (TN (WN [0,1,4,5,6,7,17,18,19,31] Q Q ?_)))
   refine TC _ Q (fun h13=>?_) (fun h13=>?_)
   ·replace hm:=JT h13 hm
    refine TG ?_
    iterate 4 (refine SA TK Q ?_)
    obtain⟨r14,hr14,hm⟩:=BI hm
    refine SX Q Q (aG [0,1] ⟨Q,Q,fun _=>Q⟩ Q Q Q (by decide) Q (aF Q) Q Q (eV hr14)) ?_
    refine SA TK Q (SA TK Q ?_)
    obtain⟨r15,hr15,hm⟩:=BI hm
    refine SX Q Q (aG [0,1] ⟨Q,Q,fun _=>Q⟩ Q Q Q (by decide) Q (aF Q) Q Q (cK hr15)) ?_
    refine SX Q Q (bF (f:=Expr.encR) (xs:=([r14,r15]:List Expr)) [.tmp 36,.tmp 39] TK Q Q aH Q (bB Q (aE (Expr.encR_eq _) (aE (Expr.encR_eq _) aL))) Q (aI Expr.encR_cells) Q) ?_
    obtain⟨r16,hr16,hm⟩:=BI hm
    refine SX Q Q (RD Q Q Q (dQ hr16)) (SX Q Q (bF (f:=Expr.encR) (xs:=([r16]:List Expr)) [.tmp 41] TK Q Q aH Q (bB Q (aE (Expr.encR_eq _) aL)) Q (aI Expr.encR_cells) Q) ?_)
    obtain⟨g17,hm⟩:=GI hm
    refine cT (f:=Expr.encR) ([r16]:List Expr) TK Q Q aH Q Q Q Q Q (fun h=>absurd (show 3 < 2 from h) (by decide)) Q cR g17 Q Q ?_
    refine SA TK Q (TN (WK (WT (WN [0,1,4,5,17,18,19] Q Q (TG ?_)))))
    obtain⟨g18,hm⟩:=GI hm
    refine SX Q Q (aV Q Q Q Q g18) (SA TK Q (TN (WT ?_)))
    exact⟨_,[0,1,2,3],(SJ hm),Q,(kB Q),Q⟩
   ·replace hm:=JF h13 hm
    refine TG (SA TK Q (SA TK Q (SA TK Q ?_)))
    obtain⟨r19,hr19,hm⟩:=BI hm
    refine SX Q Q (aG [0,1] ⟨Q,Q,fun _=>Q⟩ Q Q Q (by decide) Q (aF Q) Q Q (cK hr19)) ?_
    refine SX Q Q (bF (f:=Expr.encR) (xs:=([r19]:List Expr)) [.tmp 47] TK Q Q aH Q (bB Q (aE (Expr.encR_eq _) aL)) Q (aI Expr.encR_cells) Q) ?_
    obtain⟨g20,hm⟩:=GI hm
    refine cT (f:=Expr.encR) ([r19]:List Expr) TK Q Q aH Q Q Q Q Q (fun h=>absurd (show 3 < 2 from h) (by decide)) Q cR g20 Q Q ?_
    refine SA TK Q (TN (WK (WT (WN [0,1,4,5,17,18,19] Q Q (TG ?_)))))
    obtain⟨g21,hm⟩:=GI hm
    refine SX Q Q (aV Q Q Q Q g21) (SA TK Q (TN (WT ?_)))
    exact⟨_,[0,1,2,3],(SJ hm),Q,(kB Q),Q⟩
  ·replace hm:=JF h10 hm
   refine aJ (WX ?_)
   obtain⟨v22,hm,hz⟩:=II hm
   rw [hz9 _ hz] at hm
   refine WX (WH (WT ?_))
   exact⟨_,[0,1,2,3],(SJ hm),Q,(kB Q),Q⟩
 ·refine WN [4,5] Q Q ?_
  refine lC 5 3 [4] Q Q Q Q Q (by simp) Q Q ?_
  refine RS (SA TK Q ?_)
  obtain⟨r23,hr23,hm⟩:=BI hm
  refine SX Q Q (RD Q Q Q (cI hr23)) (SA TK Q (TN (WN [4] Q Q (TR ?_))))
  obtain rfl:=OJ hm
  exact⟨_,[0,1],.mk _ (.cons (.agg (TK.lay Q) Q Q Q Q) .nil) Q,by decide,(kB Q),Q,Q⟩

theorem lZ {p0:Builder} {p1:Int} {r:Expr} (hm:fG p0 p1=some r):Ret Tryz.prog 84 [.box 81 [.d (.sl 14 (p0.numbering.t.routes.map Route.enc)),.d (.sl 1 (p0.numbering.t.points.map (D.int .i64))),.d (.sl 1 (p0.numbering.t.homes.map (D.int .i64))),.d (.int .i64 p0.numbering.t.sections),.d (.int .i64 p0.numbering.t.signals),.d (.int .i64 p0.numbering.inputs),.d (.sl 1 (p0.numbering.bases.map (D.int .i64))),.d (.int .i64 p0.numbering.extra),.d (.int .i64 p0.numbering.count),.msl 1 6 0 p0.rungs.length],.flat 40 6 (p0.rungs.map Rung.enc)] (fun _=>false) [.mptr 0 0 0 0,.d (.int .i64 p1)] (.d (r.enc)) [.box 81 [.d (.sl 14 (p0.numbering.t.routes.map Route.enc)),.d (.sl 1 (p0.numbering.t.points.map (D.int .i64))),.d (.sl 1 (p0.numbering.t.homes.map (D.int .i64))),.d (.int .i64 p0.numbering.t.sections),.d (.int .i64 p0.numbering.t.signals),.d (.int .i64 p0.numbering.inputs),.d (.sl 1 (p0.numbering.bases.map (D.int .i64))),.d (.int .i64 p0.numbering.extra),.d (.int .i64 p0.numbering.count),.msl 1 6 0 p0.rungs.length],.flat 40 6 (p0.rungs.map Rung.enc)]:=by
 refine cC qYL Tryz.func84 Q Tryz.ntmps84 Q Q (fun wX gX=>?_)
 unfold fG at hm
 refine WN [0,1] Q Q (RS (dA 2 Q Q aH Q (cO 2 [none,none,some 3] Q Q (TN (WN [0,1,4] Q Q (TQ (RS ?_)))))))
 iterate 5 (refine SA TK Q ?_)
 obtain⟨r1,hr1,hm⟩:=BI hm
 refine SX Q Q (RN Q Q (SC (.d _) (SC (.d _) SN)) (bW hr1)) (SA TK Q (TN (WN [0,1,4,11] Q Q ?_)))
 refine TC _ Q (fun h2=>?_) (fun h2=>?_)
 ·replace hm:=JT h2 hm
  refine RS ?_
  obtain⟨r3,hr3,hm⟩:=BI hm
  refine SX Q Q (RD Q Q Q ((cI hr3).args ((.cons (.nil _) .nil)))) (SA TK Q (TN (WN [4] Q Q (TR (WR ?_)))))
  obtain rfl:=OJ hm
  exact⟨_,[0,1],.mk _ (.cons (.agg (TK.lay Q) Q Q Q Q) .nil) Q,by decide,(kB Q),Q,Q⟩
 ·replace hm:=JF h2 hm
  refine TS (WT (WN [0,1,4] Q Q (RS ?_)))
  iterate 7 (refine SA TK Q ?_)
  obtain⟨r4,hr4,hm⟩:=BI hm
  refine SX Q Q (RN Q Q (SC (.d _) (SC (.d _) SN)) (bW hr4)) ?_
  obtain⟨g5,hm⟩:=GI hm
  refine SX Q Q (aV Q Q Q Q g5) ?_
  obtain⟨r6,hr6,hm⟩:=BI hm
  refine SX Q Q (aG [0,1] ⟨Q,Q,fun _=>Q⟩ Q Q Q (by decide) Q (aF Q) Q Q (eV hr6)) ?_
  refine SA TK Q (TN (WN [4] Q Q (TR ?_)))
  obtain rfl:=OJ hm
  exact⟨_,[0,1],.mk _ (.cons (.agg (TK.lay Q) Q Q Q Q) .nil) Q,by decide,(kB Q),Q,Q⟩

theorem rI {p0:Builder} {p1:Int} {r:Builder} (hm:gG p0 p1=some r):Ret Tryz.prog 31 [.box 81 [.d (.sl 14 (p0.numbering.t.routes.map Route.enc)),.d (.sl 1 (p0.numbering.t.points.map (D.int .i64))),.d (.sl 1 (p0.numbering.t.homes.map (D.int .i64))),.d (.int .i64 p0.numbering.t.sections),.d (.int .i64 p0.numbering.t.signals),.d (.int .i64 p0.numbering.inputs),.d (.sl 1 (p0.numbering.bases.map (D.int .i64))),.d (.int .i64 p0.numbering.extra),.d (.int .i64 p0.numbering.count),.msl 1 6 0 p0.rungs.length],.flat 40 6 (p0.rungs.map Rung.enc)] (fun j=>Nat.beq j 1) [.mptr 0 0 0 0,.d (.int .i64 p1)] (.tup []) [.box 81 [.d (.sl 14 (p0.numbering.t.routes.map Route.enc)),.d (.sl 1 (p0.numbering.t.points.map (D.int .i64))),.d (.sl 1 (p0.numbering.t.homes.map (D.int .i64))),.d (.int .i64 p0.numbering.t.sections),.d (.int .i64 p0.numbering.t.signals),.d (.int .i64 p0.numbering.inputs),.d (.sl 1 (p0.numbering.bases.map (D.int .i64))),.d (.int .i64 p0.numbering.extra),.d (.int .i64 p0.numbering.count),.msl 1 6 0 r.rungs.length],.flat 40 6 (r.rungs.map Rung.enc)]:=by
 refine cC zAF Tryz.func31 Q Tryz.ntmps31 Q Q (fun wX gX=>?_)
 unfold gG at hm
 refine WN [0,1] Q Q (RS ?_)
 iterate 7 (refine SA TK Q ?_)
 obtain⟨e1,he1,hm⟩:=GV hm
 refine SX Q Q (bZ TK Q Q Q Q he1) (SA TK Q (SA TK Q (SA TK Q (TN (WN [0,1,4] Q Q (cN follows  ?_))))))
 iterate 10 (refine DA [0,1] TK Q ?_)
 obtain⟨r2,hr2,hm⟩:=BI hm
 refine DX [0,1] Q Q (RN Q Q (SC (.d _) (SC (.d _) SN)) (jO hr2)) ?_
 iterate 2 (refine DA [0,1] TK Q ?_)
 obtain⟨r3,hr3,hm⟩:=BI hm
 refine DX [0,1] Q Q (aG [0,1] ⟨Q,Q,fun _=>Q⟩ Q Q Q (by decide) Q (aF Q) Q Q (bX hr3)) ?_
 iterate 2 (refine DA [0,1] TK Q ?_)
 obtain⟨r4,hr4,hm⟩:=BI hm
 refine DX [0,1] Q Q (aG [0,1] ⟨Q,Q,fun _=>Q⟩ Q Q Q (by decide) Q (aF Q) Q Q (bY hr4)) ?_
 iterate 2 (refine DA [0,1] TK Q ?_)
 obtain⟨r5,hr5,hm⟩:=BI hm
 refine DX [0,1] Q Q (aG [0,1] ⟨Q,Q,fun _=>Q⟩ Q Q Q (by decide) Q (aF Q) Q Q (jE hr5)) ?_
 refine DX [0,1] Q Q (bF (f:=Expr.encR) (xs:=([r3,r4,r5]:List Expr)) [.tmp 28,.tmp 31,.tmp 34] TK Q Q aH Q (bB Q (aE (Expr.encR_eq _) (aE (Expr.encR_eq _) (aE (Expr.encR_eq _) aL)))) Q (aI Expr.encR_cells) Q) ?_
 obtain⟨r6,hr6,hm⟩:=BI hm
 refine DX [0,1] Q Q (RD Q Q Q (cI hr6)) (DX [0,1] Q Q (dJ Q qCW fV Q Q Q Q) ?_)
 iterate 5 (refine DA [0,1] TK Q ?_)
 obtain⟨r7,hr7,hm⟩:=BI hm
 refine DX [0,1] Q Q (RN Q Q (SC (.d _) (SC (.d _) SN)) (lJ hr7)) ?_
 iterate 2 (refine DA [0,1] TK Q ?_)
 obtain⟨r8,hr8,hm⟩:=BI hm
 refine DX [0,1] Q Q (aG [0,1] ⟨Q,Q,fun _=>Q⟩ Q Q Q (by decide) Q (aF Q) Q Q (bX hr8)) ?_
 iterate 2 (refine DA [0,1] TK Q ?_)
 obtain⟨r9,hr9,hm⟩:=BI hm
 refine DX [0,1] Q Q (aG [0,1] ⟨Q,Q,fun _=>Q⟩ Q Q Q (by decide) Q (aF Q) Q Q (bY hr9)) ?_
 iterate 2 (refine DA [0,1] TK Q ?_)
 obtain⟨r10,hr10,hm⟩:=BI hm
 refine DX [0,1] Q Q (aG [0,1] ⟨Q,Q,fun _=>Q⟩ Q Q Q (by decide) Q (aF Q) Q Q (lZ hr10)) ?_
 iterate 7 (refine DA [0,1] TK Q ?_)
 obtain⟨r11,hr11,hm⟩:=BI hm
 refine DX [0,1] Q Q (RN Q Q (SC (.d _) (SC (.d _) SN)) (bW hr11)) ?_
 obtain⟨e12,he12,hm⟩:=GV hm
 refine DX [0,1] Q Q (bZ TK Q Q Q Q he12) (DA [0,1] TK Q ?_)
 obtain⟨r13,hr13,hm⟩:=BI hm
 refine DX [0,1] Q Q (aG [0,1] ⟨Q,Q,fun _=>Q⟩ Q Q Q (by decide) Q (aF Q) Q Q (cK hr13)) ?_
 obtain⟨r14,hr14,hm⟩:=BI hm
 refine DX [0,1] Q Q (RD Q Q Q (cW hr14)) (DX [0,1] Q Q (bF (f:=Expr.encR) (xs:=([r8,r9,r10,r14]:List Expr)) [.tmp 46,.tmp 49,.tmp 52,.tmp 64] TK Q Q aH Q (bB Q (aE (Expr.encR_eq _) (aE (Expr.encR_eq _) (aE (Expr.encR_eq _) (aE (Expr.encR_eq _) aL))))) Q (aI Expr.encR_cells) Q) ?_)
 obtain⟨r15,hr15,hm⟩:=BI hm
 refine DX [0,1] Q Q (RD Q Q Q (cI hr15)) (DX [0,1] Q Q (dJ Q qCW fV Q Q Q Q) (DX [0,1] Q Q (dW [.tmp 37,.tmp 67] TK Q Q fV Q Q Q Q Q) ?_))
 refine vQ 0 15 ?_ ?_ Q (by kernel_rfl) (by kernel_rfl) (by kernel_rfl)
 ·obtain⟨g16,hm⟩:=GI hm
  refine cT (f:=Rung.enc) ([(⟨(2:Int),r2,(12:Int),r6⟩:Rung),(⟨(2:Int),r7,(4:Int),r15⟩:Rung)]:List Rung) TK Q Q fV Q Q Q Q Q (fun _=>Q) Q cR g16 Q Q (SA TK Q (SA TK Q (SA TK Q (TN ?_))))
  obtain rfl:=OJ hm
  exact⟨_,[0,1],res Q,by decide,(kB Q),Q,Q⟩
 ·obtain⟨g17,hm⟩:=GI hm
  refine cT (f:=Rung.enc) ([(⟨(2:Int),r2,(12:Int),r6⟩:Rung),(⟨(2:Int),r7,(4:Int),r15⟩:Rung)]:List Rung) TK Q Q fV Q Q Q Q Q (fun _=>Q) Q cR g17 Q Q ?_
  iterate 4 (refine SA TK Q ?_)
  refine TN ?_
  obtain rfl:=OJ hm
  exact⟨_,[0,1],res Q,by decide,(kB Q),Q,Q⟩

theorem jP {p0:Builder} {p1:Int} {r:Expr} (hm:eL p0 p1=some r):Ret Tryz.prog 87 [.box 81 [.d (.sl 14 (p0.numbering.t.routes.map Route.enc)),.d (.sl 1 (p0.numbering.t.points.map (D.int .i64))),.d (.sl 1 (p0.numbering.t.homes.map (D.int .i64))),.d (.int .i64 p0.numbering.t.sections),.d (.int .i64 p0.numbering.t.signals),.d (.int .i64 p0.numbering.inputs),.d (.sl 1 (p0.numbering.bases.map (D.int .i64))),.d (.int .i64 p0.numbering.extra),.d (.int .i64 p0.numbering.count),.msl 1 6 0 p0.rungs.length],.flat 40 6 (p0.rungs.map Rung.enc)] (fun _=>false) [.mptr 0 0 0 0,.d (.int .i64 p1)] (.d (r.enc)) [.box 81 [.d (.sl 14 (p0.numbering.t.routes.map Route.enc)),.d (.sl 1 (p0.numbering.t.points.map (D.int .i64))),.d (.sl 1 (p0.numbering.t.homes.map (D.int .i64))),.d (.int .i64 p0.numbering.t.sections),.d (.int .i64 p0.numbering.t.signals),.d (.int .i64 p0.numbering.inputs),.d (.sl 1 (p0.numbering.bases.map (D.int .i64))),.d (.int .i64 p0.numbering.extra),.d (.int .i64 p0.numbering.count),.msl 1 6 0 p0.rungs.length],.flat 40 6 (p0.rungs.map Rung.enc)]:=by
 refine cC qYI Tryz.func87 Q Tryz.ntmps87 Q Q (fun wX gX=>?_)
 unfold eL at hm
 refine WN [0,1] Q Q (RS (dA 2 Q Q aH Q (cO 2 [none,none,some 3] Q Q (TN (WN [0,1,4] Q Q (RS ?_))))))
 iterate 7 (refine SA TK Q ?_)
 obtain⟨e1,he1,hm⟩:=GV hm
 refine SX Q Q (bZ TK Q Q Q Q he1) (SA TK Q (dA 3 Q Q iH Q (cO 3 [none,none,none,some 3,some 2,some 1,none,none,some 3,some 2,some 1,some 2,some 1,some 2] Q Q (SA TK Q (TN (WN [0,4,5] Q Q (RS (jD (f:=Expr.encR) 4 38 3 Q Q Q ?_))))))))
 refine TN (WN [0,4,5,6] Q Q ?_)
 refine aK hm (fun b2=>([(6,.msl 4 3 0 b2.length)]:Fr)) (fun b2=>([(4,.flat 38 3 (b2.map Expr.encR))]:List (Nat×Blk))) [6] [0,4,5] Q (fun z3 hm=>?_) (fun b2 hm=>?_)
 ·refine RS ?_
  iterate 4 (refine SA TK Q ?_)
  refine SX Q Q (dW [.tmp 22,.tmp 24] TK Q Q qGF Q Q Q Q Q) ?_
  obtain⟨r4,hr4,hm⟩:=BI hm
  refine SX Q Q (RN Q Q (SC (.d _) SN) (lM hr4)) (SX Q Q (aT TK Q Q Q) (SA TK Q (TN (WN [0,4,5,6,26,27,28] Q Q (TB (aZ hm (fun (x8,b9)=>([(6,.msl 4 3 0 b9.length),(28,.d (.int .i64 x8))]:Fr)) (fun (x8,b9)=>([(4,.flat 38 3 (b9.map Expr.encR))]:List (Nat×Blk))) [6,28] [0,4,5,26,27] [0,1,2,3,4] Q (kB Q) Q Q Q Q Q (fun s z10 hm hz10=>?_)))))))
  obtain⟨x8,b9⟩:=s
  refine WN [0,4,5,6,26,27,28] Q Q (RS (SA TK Q (TN (WN [0,4,5,6,26,27,28,29] Q Q (TQ ?_)))))
  refine TC _ Q (fun h11=>?_) (fun h11=>?_)
  ·replace hm:=JT h11 hm
   refine TS (WT (WN [0,4,5,6,26,27,28] Q Q (TQ (TB (RS ?_)))))
   obtain⟨e12,he12,hm⟩:=GV hm
   refine SX Q Q (bZ TK Q Q Q Q he12) (SA TK Q (SA TK Q (TN (WN [0,4,5,6,8,26,27,28] Q Q (TG (SA TK Q (SA TK Q (SA TK Q ?_))))))))
   obtain⟨r13,hr13,hm⟩:=BI hm
   refine SX Q Q (aG [0,1] ⟨Q,Q,fun _=>Q⟩ Q Q Q (by decide) Q (aF Q) Q Q (cK hr13)) ?_
   refine SX Q Q (bF (f:=Expr.encR) (xs:=([r13]:List Expr)) [.tmp 35] TK Q Q aH Q (bB Q (aE (Expr.encR_eq _) aL)) Q (aI Expr.encR_cells) Q) ?_
   obtain⟨g14,hm⟩:=GI hm
   refine cT (f:=Expr.encR) ([r13]:List Expr) TK Q Q aH Q Q Q Q Q (fun h=>absurd (show 4 < 2 from h) (by decide)) Q cR g14 Q Q ?_
   refine SA TK Q (TN (WK (WT (WN [0,4,5,6,26,27,28] Q Q (TG ?_)))))
   obtain⟨g15,hm⟩:=GI hm
   refine SX Q Q (aV Q Q Q Q g15) (SA TK Q (TN (WT ?_)))
   exact⟨_,[0,1,2,3,4],(SJ hm),Q,(kB Q),Q⟩
  ·replace hm:=JF h11 hm
   refine aJ (WX ?_)
   obtain⟨v16,hm,hz⟩:=II hm
   rw [hz10 _ hz] at hm
   refine WX (WH (WT ?_))
   exact⟨_,[0,1,2,3,4],(SJ hm),Q,(kB Q),Q⟩
 ·refine WN [0,4,5,6] Q Q ?_
  refine aK hm (fun b17=>([(6,.msl 4 3 0 b17.length)]:Fr)) (fun b17=>([(4,.flat 38 3 (b17.map Expr.encR))]:List (Nat×Blk))) [6] [4] Q (fun z18 hm=>?_) (fun b17 hm=>?_)
  ·refine RS (SA TK Q ?_)
   obtain⟨r19,hr19,hm⟩:=BI hm
   refine SX Q Q (RD Q Q Q (lE hr19)) (SX Q Q (aT TK Q Q Q) (SA TK Q (TN (WN [0,4,6,40,41,42] Q Q (TB (aZ hm (fun (x23,b24)=>([(6,.msl 4 3 0 b24.length),(42,.d (.int .i64 x23))]:Fr)) (fun (x23,b24)=>([(4,.flat 38 3 (b24.map Expr.encR))]:List (Nat×Blk))) [6,42] [0,4,40,41] [0,1,2,3,4] Q (kB Q) Q Q Q Q Q (fun s z25 hm hz25=>?_)))))))
   obtain⟨x23,b24⟩:=s
   refine WN [0,4,6,40,41,42] Q Q (RS (SA TK Q (TN (WN [0,4,6,40,41,42,43] Q Q (TQ ?_)))))
   refine TC _ Q (fun h26=>?_) (fun h26=>?_)
   ·replace hm:=JT h26 hm
    refine TS (WT (WN [0,4,6,40,41,42] Q Q (TQ (TB (RS ?_)))))
    obtain⟨e27,he27,hm⟩:=GV hm
    refine SX Q Q (bZ TK Q Q Q Q he27) (SA TK Q (dA 5 Q Q fU Q (SA TK Q (TN (WN [0,4,6,10,40,41,42] Q Q (RS (SA TK Q (TN ?_))))))))
    refine WN [0,4,6,10,11,40,41,42] Q Q ?_
    refine aK hm (fun kind28=>([(11,.d (.int .i64 kind28))]:Fr)) (fun kind28=>([]:List (Nat×Blk))) [11] [0,4,6,10,40,41,42] Q (fun z29 hm=>?_) (fun kind28 hm=>?_)
    ·refine RS (SA TK Q (SA TK Q (SA TK Q (TN (WN [0,4,6,10,11,40,41,42,48] Q Q ?_)))))
     refine TC _ Q (fun h30=>?_) (fun h30=>?_)
     ·replace hm:=JT h30 hm
      refine TG (SA TK Q (TN (WT ?_)))
      exact⟨_,[0,1,2,3,4,5],(SJ hm),Q,(kB Q),Q⟩
     ·replace hm:=JF h30 hm
      refine TS (WT ?_)
      exact⟨_,[0,1,2,3,4,5],(SJ hm),Q,(kB Q),Q⟩
    ·refine WN [0,4,6,10,11,40,41,42] Q Q (cN follows  ?_)
     iterate 12 (refine DA [0,1,2,3,4,5] TK Q ?_)
     obtain⟨r31,hr31,hm⟩:=BI hm
     refine DX [0,1,2,3,4,5] Q Q (RN Q Q (SC (.d _) (SC (.d _) SN)) (lQ hr31)) (DA [0,1,2,3,4,5] TK Q ?_)
     obtain⟨r32,hr32,hm⟩:=BI hm
     refine DX [0,1,2,3,4,5] Q Q (RN Q Q (SC (.d _) (SC (.d _) (SC (.d _) SN))) (qD hr32)) ?_
     obtain⟨r33,hr33,hm⟩:=BI hm
     refine DX [0,1,2,3,4,5] Q Q (RD Q Q Q (bV hr33)) (DX [0,1,2,3,4,5] Q Q (bF (f:=Expr.encR) (xs:=([r33]:List Expr)) [.tmp 64] TK Q Q aH Q (bB Q (aE (Expr.encR_eq _) aL)) Q (aI Expr.encR_cells) Q) ?_)
     refine DT ?_ (by kernel_rfl)
     obtain⟨g34,hm⟩:=GI hm
     refine cT (f:=Expr.encR) ([r33]:List Expr) TK Q Q aH Q Q Q Q Q (fun h=>absurd (show 4 < 2 from h) (by decide)) Q cR g34 Q Q ?_
     refine SA TK Q (TN (WK (WT (WN [0,4,6,40,41,42] Q Q (TG ?_)))))
     obtain⟨g35,hm⟩:=GI hm
     refine SX Q Q (aV Q Q Q Q g35) (SA TK Q (TN (WT ?_)))
     exact⟨_,[0,1,2,3,4],(SJ hm),Q,(kB Q),Q⟩
   ·replace hm:=JF h26 hm
    refine aJ (WX ?_)
    obtain⟨v36,hm,hz⟩:=II hm
    rw [hz25 _ hz] at hm
    refine WX (WH (WT ?_))
    exact⟨_,[0,1,2,3,4],(SJ hm),Q,(kB Q),Q⟩
  ·refine WN [4,6] Q Q ?_
   refine lC 6 4 [4] Q Q Q Q Q (by simp) Q Q ?_
   refine RS (SA TK Q ?_)
   obtain⟨r37,hr37,hm⟩:=BI hm
   refine SX Q Q (RD Q Q Q (cI hr37)) (SA TK Q (TN (WN [4] Q Q (TR ?_))))
   obtain rfl:=OJ hm
   exact⟨_,[0,1],.mk _ (.cons (.agg (TK.lay Q) Q Q Q Q) .nil) Q,by decide,(kB Q),Q,Q⟩

end Go.Proofs.YtcagmechagiclaaGreatDoor

set_option maxHeartbeats 8000000
set_option linter.unusedSimpArgs false
set_option linter.unusedVariables false
set_option maxRecDepth 20000
namespace Go.Proofs.YtcagmechagiclaaGreatDoor
open Go Go.TL

theorem cY {p0:Builder} {p1:Int} {p2:Expr} {r:Builder} (hm:cD p0 p1 p2=some r):Ret Tryz.prog 34 [.box 81 [.d (.sl 14 (p0.numbering.t.routes.map Route.enc)),.d (.sl 1 (p0.numbering.t.points.map (D.int .i64))),.d (.sl 1 (p0.numbering.t.homes.map (D.int .i64))),.d (.int .i64 p0.numbering.t.sections),.d (.int .i64 p0.numbering.t.signals),.d (.int .i64 p0.numbering.inputs),.d (.sl 1 (p0.numbering.bases.map (D.int .i64))),.d (.int .i64 p0.numbering.extra),.d (.int .i64 p0.numbering.count),.msl 1 6 0 p0.rungs.length],.flat 40 6 (p0.rungs.map Rung.enc)] (fun j=>Nat.beq j 1) [.mptr 0 0 0 0,.d (.int .i64 p1),.d (p2.enc)] (.tup []) [.box 81 [.d (.sl 14 (p0.numbering.t.routes.map Route.enc)),.d (.sl 1 (p0.numbering.t.points.map (D.int .i64))),.d (.sl 1 (p0.numbering.t.homes.map (D.int .i64))),.d (.int .i64 p0.numbering.t.sections),.d (.int .i64 p0.numbering.t.signals),.d (.int .i64 p0.numbering.inputs),.d (.sl 1 (p0.numbering.bases.map (D.int .i64))),.d (.int .i64 p0.numbering.extra),.d (.int .i64 p0.numbering.count),.msl 1 6 0 r.rungs.length],.flat 40 6 (r.rungs.map Rung.enc)]:=by
 refine cC zAC Tryz.func34 Q Tryz.ntmps34 Q Q (fun wX gX=>?_)
 unfold cD at hm
 refine WN [0,1,2] Q Q (RS (eR 2 Q Q Q (TN (WN [0,1,5] Q Q (cN follows  ?_)))))
 iterate 7 (refine DA [0,1,2] TK Q ?_)
 refine DX [0,1,2] Q Q (dJ Q qCW fV Q Q Q Q) (DX [0,1,2] Q Q (dW [.tmp 13] TK Q Q fV Q Q Q Q Q) ?_)
 refine vQ 0 6 ?_ ?_ Q (by kernel_rfl) (by kernel_rfl) (by kernel_rfl)
 ·obtain⟨g1,hm⟩:=GI hm
  refine cT (f:=Rung.enc) ([(⟨(1:Int),p1,(0:Int),p2⟩:Rung)]:List Rung) TK Q Q fV Q Q Q Q Q (fun _=>Q) Q cR g1 Q Q (SA TK Q (SA TK Q (SA TK Q (TN ?_))))
  obtain rfl:=OJ hm
  exact⟨_,[0,1],res Q,by decide,(kB Q),Q,Q⟩
 ·obtain⟨g2,hm⟩:=GI hm
  refine cT (f:=Rung.enc) ([(⟨(1:Int),p1,(0:Int),p2⟩:Rung)]:List Rung) TK Q Q fV Q Q Q Q Q (fun _=>Q) Q cR g2 Q Q ?_
  iterate 4 (refine SA TK Q ?_)
  refine TN ?_
  obtain rfl:=OJ hm
  exact⟨_,[0,1],res Q,by decide,(kB Q),Q,Q⟩

theorem lK {p0:Builder} {p1:Int} {r:Expr} (hm:eY p0 p1=some r):Ret Tryz.prog 88 [.box 81 [.d (.sl 14 (p0.numbering.t.routes.map Route.enc)),.d (.sl 1 (p0.numbering.t.points.map (D.int .i64))),.d (.sl 1 (p0.numbering.t.homes.map (D.int .i64))),.d (.int .i64 p0.numbering.t.sections),.d (.int .i64 p0.numbering.t.signals),.d (.int .i64 p0.numbering.inputs),.d (.sl 1 (p0.numbering.bases.map (D.int .i64))),.d (.int .i64 p0.numbering.extra),.d (.int .i64 p0.numbering.count),.msl 1 6 0 p0.rungs.length],.flat 40 6 (p0.rungs.map Rung.enc)] (fun _=>false) [.mptr 0 0 0 0,.d (.int .i64 p1)] (.d (r.enc)) [.box 81 [.d (.sl 14 (p0.numbering.t.routes.map Route.enc)),.d (.sl 1 (p0.numbering.t.points.map (D.int .i64))),.d (.sl 1 (p0.numbering.t.homes.map (D.int .i64))),.d (.int .i64 p0.numbering.t.sections),.d (.int .i64 p0.numbering.t.signals),.d (.int .i64 p0.numbering.inputs),.d (.sl 1 (p0.numbering.bases.map (D.int .i64))),.d (.int .i64 p0.numbering.extra),.d (.int .i64 p0.numbering.count),.msl 1 6 0 p0.rungs.length],.flat 40 6 (p0.rungs.map Rung.enc)]:=by
 refine cC qYH Tryz.func88 Q Tryz.ntmps88 Q Q (fun wX gX=>?_)
 unfold eY at hm
 refine WN [0,1] Q Q (RS (dA 2 Q Q aH Q (cO 2 [none,none,some 3] Q Q (TN (WN [0,1,4] Q Q (RS (jD (f:=Expr.encR) 3 38 3 Q Q Q (TN ?_))))))))
 refine WN [0,1,4,5] Q Q ?_
 refine aK hm (fun b1=>([(5,.msl 3 3 0 b1.length)]:Fr)) (fun b1=>([(3,.flat 38 3 (b1.map Expr.encR))]:List (Nat×Blk))) [5] [4] Q (fun z2 hm=>?_) (fun b1 hm=>?_)
 ·refine RS ?_
  iterate 7 (refine SA TK Q ?_)
  obtain⟨e3,he3,hm⟩:=GV hm
  refine SX Q Q (bZ TK Q Q Q Q he3) (SA TK Q (SA TK Q (SX Q Q (aT TK Q Q Q) (SA TK Q (TN (WN [0,1,4,5,18,19,20] Q Q (TB (aZ hm (fun (x7,b8)=>([(5,.msl 3 3 0 b8.length),(20,.d (.int .i64 x7))]:Fr)) (fun (x7,b8)=>([(3,.flat 38 3 (b8.map Expr.encR))]:List (Nat×Blk))) [5,20] [0,1,4,18,19] [0,1,2,3] Q (kB Q) Q Q Q Q Q (fun s z9 hm hz9=>?_)))))))))
  obtain⟨x7,b8⟩:=s
  refine WN [0,1,4,5,18,19,20] Q Q (RS (SA TK Q (TN (WN [0,1,4,5,18,19,20,21] Q Q (TQ ?_)))))
  refine TC _ Q (fun h10=>?_) (fun h10=>?_)
  ·replace hm:=JT h10 hm
   refine TS (WT (WN [0,1,4,5,18,19,20] Q Q (TQ (TB (RS (SA TK Q ?_))))))
   obtain⟨e11,he11,hm⟩:=GV hm
   refine SX Q Q (bZ TK Q Q Q Q he11) (SA TK Q (SA TK Q (SA TK Q (TN (WN [0,1,4,5,6,7,18,19,20] Q Q (RS (SA TK Q (SA TK Q ?_))))))))
   obtain⟨r12,hr12,hm⟩:=BI hm
   refine SX Q Q (aG [0,1] ⟨Q,Q,fun _=>Q⟩ Q Q Q (by decide) Q (aF Q) Q Q (cK hr12)) ?_
   refine xB (f:=Expr.encR) 4 [.tmp 27] ([r12]:List Expr) TK Q Q Q aH Q (bB Q (aE (Expr.encR_eq _) aL)) Q (aI Expr.encR_cells) Q (SA TK Q (TN (WN [0,1,4,5,6,8,18,19,20] Q Q ?_)))
   refine aK hm (fun b13=>([(8,.msl 4 3 0 b13.length)]:Fr)) (fun b13=>([(4,.flat 38 3 (b13.map Expr.encR))]:List (Nat×Blk))) [8] [0,1,4,5,6,18,19,20] Q (fun z14 hm=>?_) (fun b13 hm=>?_)
   ·refine RS (SA TK Q (SA TK Q (TN (WN [0,1,4,5,6,8,18,19,20,30] Q Q ?_))))
    refine TC _ Q (fun h15=>?_) (fun h15=>?_)
    ·replace hm:=JT h15 hm
     refine TG ?_
     iterate 4 (refine SA TK Q ?_)
     obtain⟨g16,hm⟩:=GI hm
     refine SX Q Q (aV Q Q Q Q g16) ?_
     obtain⟨r17,hr17,hm⟩:=BI hm
     refine SX Q Q (aG [0,1] ⟨Q,Q,fun _=>Q⟩ Q Q Q (by decide) Q (aF Q) Q Q (eV hr17)) ?_
     refine SX Q Q (bF (f:=Expr.encR) (xs:=([r17]:List Expr)) [.tmp 36] TK Q Q aH Q (bB Q (aE (Expr.encR_eq _) aL)) Q (aI Expr.encR_cells) Q) ?_
     obtain⟨g18,hm⟩:=GI hm
     refine cT (f:=Expr.encR) ([r17]:List Expr) TK Q Q aH Q Q Q Q Q (fun h=>absurd (show 4 < 2 from h) (by decide)) Q cR g18 Q Q ?_
     refine SA TK Q (TN (WT ?_))
     exact⟨_,[0,1,2,3,4],(SJ hm),Q,(kB Q),Q⟩
    ·replace hm:=JF h15 hm
     refine TS (WT ?_)
     exact⟨_,[0,1,2,3,4],(SJ hm),Q,(kB Q),Q⟩
   ·refine WN [0,1,4,5,6,8,18,19,20] Q Q ?_
    refine aK hm (fun b19=>([(8,.msl 4 3 0 b19.length)]:Fr)) (fun b19=>([(4,.flat 38 3 (b19.map Expr.encR))]:List (Nat×Blk))) [8] [0,1,4,5,18,19,20] Q (fun z20 hm=>?_) (fun b19 hm=>?_)
    ·refine RS ?_
     iterate 6 (refine SA TK Q ?_)
     obtain⟨r21,hr21,hm⟩:=BI hm
     refine SX Q Q (RN Q Q (SC (.d _) (SC (.d _) SN)) (bW hr21)) (SA TK Q (TN (WN [0,1,4,5,6,8,18,19,20,46] Q Q ?_)))
     refine TC _ Q (fun h22=>?_) (fun h22=>?_)
     ·replace hm:=JT h22 hm
      refine TG ?_
      iterate 4 (refine SA TK Q ?_)
      obtain⟨r23,hr23,hm⟩:=BI hm
      refine SX Q Q (aG [0,1] ⟨Q,Q,fun _=>Q⟩ Q Q Q (by decide) Q (aF Q) Q Q (eV hr23)) ?_
      obtain⟨r24,hr24,hm⟩:=BI hm
      refine SX Q Q (RD Q Q Q (cW hr24)) (SX Q Q (bF (f:=Expr.encR) (xs:=([r24]:List Expr)) [.tmp 52] TK Q Q aH Q (bB Q (aE (Expr.encR_eq _) aL)) Q (aI Expr.encR_cells) Q) ?_)
      obtain⟨g25,hm⟩:=GI hm
      refine cT (f:=Expr.encR) ([r24]:List Expr) TK Q Q aH Q Q Q Q Q (fun h=>absurd (show 4 < 2 from h) (by decide)) Q cR g25 Q Q ?_
      refine SA TK Q (TN (WT ?_))
      exact⟨_,[0,1,2,3,4],(SJ hm),Q,(kB Q),Q⟩
     ·replace hm:=JF h22 hm
      refine TS (WT ?_)
      exact⟨_,[0,1,2,3,4],(SJ hm),Q,(kB Q),Q⟩
    ·refine WN [0,1,4,5,8,18,19,20] Q Q ?_
     refine lC 8 4 [0,1,4,5,18,19,20] Q Q Q Q Q (by simp) Q Q ?_
     refine TG (SA TK Q (SA TK Q ?_))
     obtain⟨r26,hr26,hm⟩:=BI hm
     refine SX Q Q (RD Q Q Q (cI hr26)) (SX Q Q (bF (f:=Expr.encR) (xs:=([r26]:List Expr)) [.tmp 57] TK Q Q aH Q (bB Q (aE (Expr.encR_eq _) aL)) Q (aI Expr.encR_cells) Q) ?_)
     obtain⟨g27,hm⟩:=GI hm
     refine cT (f:=Expr.encR) ([r26]:List Expr) TK Q Q aH Q Q Q Q Q (fun h=>absurd (show 3 < 2 from h) (by decide)) Q cR g27 Q Q ?_
     refine SA TK Q (TN (WK (WT (WN [0,1,4,5,18,19,20] Q Q (TG ?_)))))
     obtain⟨g28,hm⟩:=GI hm
     refine SX Q Q (aV Q Q Q Q g28) (SA TK Q (TN (WT ?_)))
     exact⟨_,[0,1,2,3],(SJ hm),Q,(kB Q),Q⟩
  ·replace hm:=JF h10 hm
   refine aJ (WX ?_)
   obtain⟨v29,hm,hz⟩:=II hm
   rw [hz9 _ hz] at hm
   refine WX (WH (WT ?_))
   exact⟨_,[0,1,2,3],(SJ hm),Q,(kB Q),Q⟩
 ·refine WN [4,5] Q Q ?_
  refine lC 5 3 [4] Q Q Q Q Q (by simp) Q Q ?_
  refine RS (SA TK Q ?_)
  obtain⟨r30,hr30,hm⟩:=BI hm
  refine SX Q Q (RD Q Q Q (dQ hr30)) (SA TK Q (TN (WN [4] Q Q (TR ?_))))
  obtain rfl:=OJ hm
  exact⟨_,[0,1],.mk _ (.cons (.agg (TK.lay Q) Q Q Q Q) .nil) Q,by decide,(kB Q),Q,Q⟩

theorem lY {p0:Builder} {p1:Int} {r:Expr} (hm:fF p0 p1=some r):Ret Tryz.prog 89 [.box 81 [.d (.sl 14 (p0.numbering.t.routes.map Route.enc)),.d (.sl 1 (p0.numbering.t.points.map (D.int .i64))),.d (.sl 1 (p0.numbering.t.homes.map (D.int .i64))),.d (.int .i64 p0.numbering.t.sections),.d (.int .i64 p0.numbering.t.signals),.d (.int .i64 p0.numbering.inputs),.d (.sl 1 (p0.numbering.bases.map (D.int .i64))),.d (.int .i64 p0.numbering.extra),.d (.int .i64 p0.numbering.count),.msl 1 6 0 p0.rungs.length],.flat 40 6 (p0.rungs.map Rung.enc)] (fun _=>false) [.mptr 0 0 0 0,.d (.int .i64 p1)] (.d (r.enc)) [.box 81 [.d (.sl 14 (p0.numbering.t.routes.map Route.enc)),.d (.sl 1 (p0.numbering.t.points.map (D.int .i64))),.d (.sl 1 (p0.numbering.t.homes.map (D.int .i64))),.d (.int .i64 p0.numbering.t.sections),.d (.int .i64 p0.numbering.t.signals),.d (.int .i64 p0.numbering.inputs),.d (.sl 1 (p0.numbering.bases.map (D.int .i64))),.d (.int .i64 p0.numbering.extra),.d (.int .i64 p0.numbering.count),.msl 1 6 0 p0.rungs.length],.flat 40 6 (p0.rungs.map Rung.enc)]:=by
 refine cC qYG Tryz.func89 Q Tryz.ntmps89 Q Q (fun wX gX=>?_)
 unfold fF at hm
 refine WN [0,1] Q Q (RS (dA 2 Q Q aH Q (cO 2 [none,none,some 3] Q Q (TN (WN [0,1,4] Q Q (RS (SA TK Q (SA TK Q ?_))))))))
 obtain⟨r1,hr1,hm⟩:=BI hm
 refine SX Q Q (aG [0,1] ⟨Q,Q,fun _=>Q⟩ Q Q Q (by decide) Q (aF Q) Q Q (bX hr1)) ?_
 refine SA TK Q (SA TK Q ?_)
 obtain⟨r2,hr2,hm⟩:=BI hm
 refine SX Q Q (aG [0,1] ⟨Q,Q,fun _=>Q⟩ Q Q Q (by decide) Q (aF Q) Q Q (bX hr2)) ?_
 refine SX Q Q (bF (f:=Expr.encR) (xs:=([r1,r2]:List Expr)) [.tmp 7,.tmp 10] TK Q Q aH Q (bB Q (aE (Expr.encR_eq _) (aE (Expr.encR_eq _) aL))) Q (aI Expr.encR_cells) Q) ?_
 obtain⟨r3,hr3,hm⟩:=BI hm
 refine SX Q Q (RD Q Q Q (dQ hr3)) (SA TK Q (SA TK Q ?_))
 obtain⟨r4,hr4,hm⟩:=BI hm
 refine SX Q Q (aG [0,1] ⟨Q,Q,fun _=>Q⟩ Q Q Q (by decide) Q (aF Q) Q Q (bY hr4)) ?_
 obtain⟨r5,hr5,hm⟩:=BI hm
 refine SX Q Q (RD Q Q Q (cW hr5)) (SA TK Q (SA TK Q ?_))
 obtain⟨r6,hr6,hm⟩:=BI hm
 refine SX Q Q (aG [0,1] ⟨Q,Q,fun _=>Q⟩ Q Q Q (by decide) Q (aF Q) Q Q (jP hr6)) ?_
 refine SX Q Q (bF (f:=Expr.encR) (xs:=([r3,r5,r6]:List Expr)) [.tmp 12,.tmp 16,.tmp 19] TK Q Q aH Q (bB Q (aE (Expr.encR_eq _) (aE (Expr.encR_eq _) (aE (Expr.encR_eq _) aL)))) Q (aI Expr.encR_cells) Q) ?_
 obtain⟨r7,hr7,hm⟩:=BI hm
 refine SX Q Q (RD Q Q Q (cI hr7)) (SA TK Q (TN (WN [4] Q Q (TR ?_))))
 obtain rfl:=OJ hm
 exact⟨_,[0,1],.mk _ (.cons (.agg (TK.lay Q) Q Q Q Q) .nil) Q,by decide,(kB Q),Q,Q⟩

theorem qE {p0:Builder} {p1:Int} {r:Builder} (hm:fT p0 p1=some r):Ret Tryz.prog 32 [.box 81 [.d (.sl 14 (p0.numbering.t.routes.map Route.enc)),.d (.sl 1 (p0.numbering.t.points.map (D.int .i64))),.d (.sl 1 (p0.numbering.t.homes.map (D.int .i64))),.d (.int .i64 p0.numbering.t.sections),.d (.int .i64 p0.numbering.t.signals),.d (.int .i64 p0.numbering.inputs),.d (.sl 1 (p0.numbering.bases.map (D.int .i64))),.d (.int .i64 p0.numbering.extra),.d (.int .i64 p0.numbering.count),.msl 1 6 0 p0.rungs.length],.flat 40 6 (p0.rungs.map Rung.enc)] (fun j=>Nat.beq j 1) [.mptr 0 0 0 0,.d (.int .i64 p1)] (.tup []) [.box 81 [.d (.sl 14 (p0.numbering.t.routes.map Route.enc)),.d (.sl 1 (p0.numbering.t.points.map (D.int .i64))),.d (.sl 1 (p0.numbering.t.homes.map (D.int .i64))),.d (.int .i64 p0.numbering.t.sections),.d (.int .i64 p0.numbering.t.signals),.d (.int .i64 p0.numbering.inputs),.d (.sl 1 (p0.numbering.bases.map (D.int .i64))),.d (.int .i64 p0.numbering.extra),.d (.int .i64 p0.numbering.count),.msl 1 6 0 r.rungs.length],.flat 40 6 (r.rungs.map Rung.enc)]:=by
 refine cC zAE Tryz.func32 Q Tryz.ntmps32 Q Q (fun wX gX=>?_)
 unfold fT at hm
 refine WN [0,1] Q Q (RS ?_)
 iterate 7 (refine SA TK Q ?_)
 obtain⟨e1,he1,hm⟩:=GV hm
 refine SX Q Q (bZ TK Q Q Q Q he1) (SA TK Q (dA 2 Q Q iH Q (cO 2 [none,none,none,some 3,some 2,some 1,none,none,some 3,some 2,some 1,some 2,some 1,some 2] Q Q (SA TK Q (TN (WN [0,1,4] Q Q (cE follows  ?_)))))))
 iterate 2 (refine DA [0,1,2] TK Q ?_)
 obtain⟨e2,he2,hm⟩:=GV hm
 refine DX [0,1,2] Q Q (bZ TK Q Q Q Q he2) ?_
 iterate 8 (refine DA [0,1,2] TK Q ?_)
 obtain⟨r3,hr3,hm⟩:=BI hm
 refine DX [0,1,2] Q Q (RN Q Q (SC (.d _) (SC (.d _) SN)) (bW hr3)) ?_
 obtain⟨e4,he4,hm⟩:=GV hm
 refine DX [0,1,2] Q Q (bZ TK Q Q Q Q he4) ?_
 iterate 2 (refine DA [0,1,2] TK Q ?_)
 refine DT ?_ (by kernel_rfl)
 refine SA TK Q (TN (WN [0,1,4,5,6] Q Q (RS ?_)))
 iterate 6 (refine SA TK Q ?_)
 obtain⟨r5,hr5,hm⟩:=BI hm
 refine SX Q Q (RN Q Q (SC (.d _) (SC (.d _) (SC (.d _) SN))) (aY hr5)) (SA TK Q (SA TK Q ?_))
 obtain⟨r6,hr6,hm⟩:=BI hm
 refine SX Q Q (aG [0,1] ⟨Q,Q,fun _=>Q⟩ Q Q Q (by decide) Q (aF Q) Q Q (bX hr6)) ?_
 refine SA TK Q (SA TK Q ?_)
 obtain⟨r7,hr7,hm⟩:=BI hm
 refine SX Q Q (aG [0,1] ⟨Q,Q,fun _=>Q⟩ Q Q Q (by decide) Q (aF Q) Q Q (bY hr7)) ?_
 obtain⟨r8,hr8,hm⟩:=BI hm
 refine SX Q Q (RD Q Q Q (cW hr8)) (SA TK Q (SA TK Q ?_))
 obtain⟨r9,hr9,hm⟩:=BI hm
 refine SX Q Q (aG [0,1] ⟨Q,Q,fun _=>Q⟩ Q Q Q (by decide) Q (aF Q) Q Q (jP hr9)) ?_
 obtain⟨r10,hr10,hm⟩:=BI hm
 refine SX Q Q (RD Q Q Q (cW hr10)) (SX Q Q (bF (f:=Expr.encR) (xs:=([r6,r8,r10]:List Expr)) [.tmp 39,.tmp 43,.tmp 47] TK Q Q aH Q (bB Q (aE (Expr.encR_eq _) (aE (Expr.encR_eq _) (aE (Expr.encR_eq _) aL)))) Q (aI Expr.encR_cells) Q) ?_)
 obtain⟨r11,hr11,hm⟩:=BI hm
 refine SX Q Q (RD Q Q Q (cI hr11)) ?_
 obtain⟨r12,hr12,hm⟩:=BI hm
 refine dE [0,1] (fun j=>Nat.beq j 1) Q Q Q (by decide) Q Q Q Q (cY hr12) Q Q Q ?_
 refine TN (WN [0,1,4,5,6] Q Q (cE follows  ?_))
 iterate 6 (refine DA [0,1,2] TK Q ?_)
 obtain⟨r13,hr13,hm⟩:=BI hm
 refine DX [0,1,2] Q Q (RN Q Q (SC (.d _) (SC (.d _) (SC (.d _) SN))) (aY hr13)) ?_
 iterate 2 (refine DA [0,1,2] TK Q ?_)
 obtain⟨r14,hr14,hm⟩:=BI hm
 refine DX [0,1,2] Q Q (aG [0,1] ⟨Q,Q,fun _=>Q⟩ Q Q Q (by decide) Q (aF Q) Q Q (bX hr14)) ?_
 iterate 2 (refine DA [0,1,2] TK Q ?_)
 obtain⟨r15,hr15,hm⟩:=BI hm
 refine DX [0,1,2] Q Q (aG [0,1] ⟨Q,Q,fun _=>Q⟩ Q Q Q (by decide) Q (aF Q) Q Q (cK hr15)) ?_
 obtain⟨r16,hr16,hm⟩:=BI hm
 refine DX [0,1,2] Q Q (RD Q Q Q (cW hr16)) (DX [0,1,2] Q Q (bF (f:=Expr.encR) (xs:=([r14,r16]:List Expr)) [.tmp 60,.tmp 64] TK Q Q aH Q (bB Q (aE (Expr.encR_eq _) (aE (Expr.encR_eq _) aL))) Q (aI Expr.encR_cells) Q) ?_)
 obtain⟨r17,hr17,hm⟩:=BI hm
 refine DX [0,1,2] Q Q (RD Q Q Q (cI hr17)) ?_
 iterate 2 (refine DA [0,1,2] TK Q ?_)
 obtain⟨r18,hr18,hm⟩:=BI hm
 refine DX [0,1,2] Q Q (aG [0,1] ⟨Q,Q,fun _=>Q⟩ Q Q Q (by decide) Q (aF Q) Q Q (bX hr18)) ?_
 iterate 2 (refine DA [0,1,2] TK Q ?_)
 obtain⟨r19,hr19,hm⟩:=BI hm
 refine DX [0,1,2] Q Q (aG [0,1] ⟨Q,Q,fun _=>Q⟩ Q Q Q (by decide) Q (aF Q) Q Q (bY hr19)) ?_
 obtain⟨r20,hr20,hm⟩:=BI hm
 refine DX [0,1,2] Q Q (RD Q Q Q (cW hr20)) ?_
 iterate 2 (refine DA [0,1,2] TK Q ?_)
 obtain⟨r21,hr21,hm⟩:=BI hm
 refine DX [0,1,2] Q Q (aG [0,1] ⟨Q,Q,fun _=>Q⟩ Q Q Q (by decide) Q (aF Q) Q Q (bY hr21)) ?_
 iterate 2 (refine DA [0,1,2] TK Q ?_)
 obtain⟨r22,hr22,hm⟩:=BI hm
 refine DX [0,1,2] Q Q (aG [0,1] ⟨Q,Q,fun _=>Q⟩ Q Q Q (by decide) Q (aF Q) Q Q (jE hr22)) ?_
 refine DX [0,1,2] Q Q (bF (f:=Expr.encR) (xs:=([r21,r22]:List Expr)) [.tmp 76,.tmp 79] TK Q Q aH Q (bB Q (aE (Expr.encR_eq _) (aE (Expr.encR_eq _) aL))) Q (aI Expr.encR_cells) Q) ?_
 obtain⟨r23,hr23,hm⟩:=BI hm
 refine DX [0,1,2] Q Q (RD Q Q Q (cI hr23)) ?_
 obtain⟨r24,hr24,hm⟩:=BI hm
 refine DX [0,1,2] Q Q (RD Q Q Q (cW hr24)) ?_
 iterate 2 (refine DA [0,1,2] TK Q ?_)
 obtain⟨r25,hr25,hm⟩:=BI hm
 refine DX [0,1,2] Q Q (aG [0,1] ⟨Q,Q,fun _=>Q⟩ Q Q Q (by decide) Q (aF Q) Q Q (lZ hr25)) ?_
 iterate 2 (refine DA [0,1,2] TK Q ?_)
 obtain⟨r26,hr26,hm⟩:=BI hm
 refine DX [0,1,2] Q Q (aG [0,1] ⟨Q,Q,fun _=>Q⟩ Q Q Q (by decide) Q (aF Q) Q Q (cK hr26)) ?_
 refine DX [0,1,2] Q Q (bF (f:=Expr.encR) (xs:=([r25,r26]:List Expr)) [.tmp 85,.tmp 88] TK Q Q aH Q (bB Q (aE (Expr.encR_eq _) (aE (Expr.encR_eq _) aL))) Q (aI Expr.encR_cells) Q) ?_
 obtain⟨r27,hr27,hm⟩:=BI hm
 refine DX [0,1,2] Q Q (RD Q Q Q (cI hr27)) ?_
 obtain⟨r28,hr28,hm⟩:=BI hm
 refine DX [0,1,2] Q Q (RD Q Q Q (cW hr28)) ?_
 iterate 5 (refine DA [0,1,2] TK Q ?_)
 obtain⟨r29,hr29,hm⟩:=BI hm
 refine DX [0,1,2] Q Q (RN Q Q (SC (.d _) (SC (.d _) SN)) (lJ hr29)) ?_
 obtain⟨r30,hr30,hm⟩:=BI hm
 refine DX [0,1,2] Q Q (RD Q Q Q (bV hr30)) ?_
 obtain⟨r31,hr31,hm⟩:=BI hm
 refine DX [0,1,2] Q Q (RD Q Q Q (cW hr31)) (DX [0,1,2] Q Q (bF (f:=Expr.encR) (xs:=([r24,r28,r31]:List Expr)) [.tmp 82,.tmp 91,.tmp 99] TK Q Q aH Q (bB Q (aE (Expr.encR_eq _) (aE (Expr.encR_eq _) (aE (Expr.encR_eq _) aL)))) Q (aI Expr.encR_cells) Q) ?_)
 obtain⟨r32,hr32,hm⟩:=BI hm
 refine DX [0,1,2] Q Q (RD Q Q Q (cI hr32)) (DX [0,1,2] Q Q (bF (f:=Expr.encR) (xs:=([r20,r32]:List Expr)) [.tmp 73,.tmp 101] TK Q Q aH Q (bB Q (aE (Expr.encR_eq _) (aE (Expr.encR_eq _) aL))) Q (aI Expr.encR_cells) Q) ?_)
 obtain⟨r33,hr33,hm⟩:=BI hm
 refine DX [0,1,2] Q Q (RD Q Q Q (dQ hr33)) (DX [0,1,2] Q Q (bF (f:=Expr.encR) (xs:=([r18,r33]:List Expr)) [.tmp 69,.tmp 103] TK Q Q aH Q (bB Q (aE (Expr.encR_eq _) (aE (Expr.encR_eq _) aL))) Q (aI Expr.encR_cells) Q) ?_)
 obtain⟨r34,hr34,hm⟩:=BI hm
 refine DX [0,1,2] Q Q (RD Q Q Q (cI hr34)) ?_
 iterate 2 (refine DA [0,1,2] TK Q ?_)
 obtain⟨r35,hr35,hm⟩:=BI hm
 refine DX [0,1,2] Q Q (aG [0,1] ⟨Q,Q,fun _=>Q⟩ Q Q Q (by decide) Q (aF Q) Q Q (bX hr35)) ?_
 iterate 2 (refine DA [0,1,2] TK Q ?_)
 obtain⟨r36,hr36,hm⟩:=BI hm
 refine DX [0,1,2] Q Q (aG [0,1] ⟨Q,Q,fun _=>Q⟩ Q Q Q (by decide) Q (aF Q) Q Q (lK hr36)) ?_
 obtain⟨r37,hr37,hm⟩:=BI hm
 refine DX [0,1,2] Q Q (RD Q Q Q (cW hr37)) (DX [0,1,2] Q Q (bF (f:=Expr.encR) (xs:=([r35,r37]:List Expr)) [.tmp 108,.tmp 112] TK Q Q aH Q (bB Q (aE (Expr.encR_eq _) (aE (Expr.encR_eq _) aL))) Q (aI Expr.encR_cells) Q) ?_)
 obtain⟨r38,hr38,hm⟩:=BI hm
 refine DX [0,1,2] Q Q (RD Q Q Q (cI hr38)) (DX [0,1,2] Q Q (bF (f:=Expr.encR) (xs:=([r17,r34,r38]:List Expr)) [.tmp 66,.tmp 105,.tmp 114] TK Q Q aH Q (bB Q (aE (Expr.encR_eq _) (aE (Expr.encR_eq _) (aE (Expr.encR_eq _) aL)))) Q (aI Expr.encR_cells) Q) ?_)
 obtain⟨r39,hr39,hm⟩:=BI hm
 refine DX [0,1,2] Q Q (RD Q Q Q (dQ hr39)) ?_
 refine DT ?_ (by kernel_rfl)
 obtain⟨r40,hr40,hm⟩:=BI hm
 refine dE [0,1] (fun j=>Nat.beq j 1) Q Q Q (by decide) Q Q Q Q (cY hr40) Q Q Q ?_
 refine TN (WN [0,1,4,5] Q Q (cE follows  ?_))
 iterate 6 (refine DA [0,1,2] TK Q ?_)
 obtain⟨r41,hr41,hm⟩:=BI hm
 refine DX [0,1,2] Q Q (RN Q Q (SC (.d _) (SC (.d _) (SC (.d _) SN))) (aY hr41)) ?_
 iterate 2 (refine DA [0,1,2] TK Q ?_)
 obtain⟨r42,hr42,hm⟩:=BI hm
 refine DX [0,1,2] Q Q (aG [0,1] ⟨Q,Q,fun _=>Q⟩ Q Q Q (by decide) Q (aF Q) Q Q (bX hr42)) ?_
 iterate 2 (refine DA [0,1,2] TK Q ?_)
 obtain⟨r43,hr43,hm⟩:=BI hm
 refine DX [0,1,2] Q Q (aG [0,1] ⟨Q,Q,fun _=>Q⟩ Q Q Q (by decide) Q (aF Q) Q Q (cK hr43)) ?_
 iterate 2 (refine DA [0,1,2] TK Q ?_)
 obtain⟨r44,hr44,hm⟩:=BI hm
 refine DX [0,1,2] Q Q (aG [0,1] ⟨Q,Q,fun _=>Q⟩ Q Q Q (by decide) Q (aF Q) Q Q (bY hr44)) ?_
 iterate 2 (refine DA [0,1,2] TK Q ?_)
 obtain⟨r45,hr45,hm⟩:=BI hm
 refine DX [0,1,2] Q Q (aG [0,1] ⟨Q,Q,fun _=>Q⟩ Q Q Q (by decide) Q (aF Q) Q Q (bY hr45)) ?_
 iterate 3 (refine DA [0,1,2] TK Q ?_)
 obtain⟨r46,hr46,hm⟩:=BI hm
 refine DX [0,1,2] Q Q (aG [0,1] ⟨Q,Q,fun _=>Q⟩ Q Q Q (by decide) Q (aF Q) Q Q (cK hr46)) ?_
 refine DX [0,1,2] Q Q (bF (f:=Expr.encR) (xs:=([r44,r45,r46]:List Expr)) [.tmp 133,.tmp 136,.tmp 140] TK Q Q aH Q (bB Q (aE (Expr.encR_eq _) (aE (Expr.encR_eq _) (aE (Expr.encR_eq _) aL)))) Q (aI Expr.encR_cells) Q) ?_
 obtain⟨r47,hr47,hm⟩:=BI hm
 refine DX [0,1,2] Q Q (RD Q Q Q (cI hr47)) ?_
 obtain⟨r48,hr48,hm⟩:=BI hm
 refine DX [0,1,2] Q Q (RD Q Q Q (cW hr48)) ?_
 iterate 2 (refine DA [0,1,2] TK Q ?_)
 obtain⟨r49,hr49,hm⟩:=BI hm
 refine DX [0,1,2] Q Q (aG [0,1] ⟨Q,Q,fun _=>Q⟩ Q Q Q (by decide) Q (aF Q) Q Q (bY hr49)) ?_
 iterate 2 (refine DA [0,1,2] TK Q ?_)
 obtain⟨r50,hr50,hm⟩:=BI hm
 refine DX [0,1,2] Q Q (aG [0,1] ⟨Q,Q,fun _=>Q⟩ Q Q Q (by decide) Q (aF Q) Q Q (jP hr50)) ?_
 obtain⟨r51,hr51,hm⟩:=BI hm
 refine DX [0,1,2] Q Q (RD Q Q Q (cW hr51)) (DX [0,1,2] Q Q (bF (f:=Expr.encR) (xs:=([r49,r51]:List Expr)) [.tmp 146,.tmp 150] TK Q Q aH Q (bB Q (aE (Expr.encR_eq _) (aE (Expr.encR_eq _) aL))) Q (aI Expr.encR_cells) Q) ?_)
 obtain⟨r52,hr52,hm⟩:=BI hm
 refine DX [0,1,2] Q Q (RD Q Q Q (dQ hr52)) (DX [0,1,2] Q Q (bF (f:=Expr.encR) (xs:=([r42,r43,r48,r52]:List Expr)) [.tmp 127,.tmp 130,.tmp 143,.tmp 152] TK Q Q aH Q (bB Q (aE (Expr.encR_eq _) (aE (Expr.encR_eq _) (aE (Expr.encR_eq _) (aE (Expr.encR_eq _) aL))))) Q (aI Expr.encR_cells) Q) ?_)
 obtain⟨r53,hr53,hm⟩:=BI hm
 refine DX [0,1,2] Q Q (RD Q Q Q (cI hr53)) ?_
 iterate 2 (refine DA [0,1,2] TK Q ?_)
 obtain⟨r54,hr54,hm⟩:=BI hm
 refine DX [0,1,2] Q Q (aG [0,1] ⟨Q,Q,fun _=>Q⟩ Q Q Q (by decide) Q (aF Q) Q Q (bX hr54)) ?_
 iterate 2 (refine DA [0,1,2] TK Q ?_)
 obtain⟨r55,hr55,hm⟩:=BI hm
 refine DX [0,1,2] Q Q (aG [0,1] ⟨Q,Q,fun _=>Q⟩ Q Q Q (by decide) Q (aF Q) Q Q (bY hr55)) ?_
 iterate 2 (refine DA [0,1,2] TK Q ?_)
 obtain⟨r56,hr56,hm⟩:=BI hm
 refine DX [0,1,2] Q Q (aG [0,1] ⟨Q,Q,fun _=>Q⟩ Q Q Q (by decide) Q (aF Q) Q Q (bY hr56)) ?_
 iterate 2 (refine DA [0,1,2] TK Q ?_)
 obtain⟨r57,hr57,hm⟩:=BI hm
 refine DX [0,1,2] Q Q (aG [0,1] ⟨Q,Q,fun _=>Q⟩ Q Q Q (by decide) Q (aF Q) Q Q (jE hr57)) ?_
 refine DX [0,1,2] Q Q (bF (f:=Expr.encR) (xs:=([r54,r55,r56,r57]:List Expr)) [.tmp 157,.tmp 160,.tmp 163,.tmp 166] TK Q Q aH Q (bB Q (aE (Expr.encR_eq _) (aE (Expr.encR_eq _) (aE (Expr.encR_eq _) (aE (Expr.encR_eq _) aL))))) Q (aI Expr.encR_cells) Q) ?_
 obtain⟨r58,hr58,hm⟩:=BI hm
 refine DX [0,1,2] Q Q (RD Q Q Q (cI hr58)) ?_
 iterate 2 (refine DA [0,1,2] TK Q ?_)
 obtain⟨r59,hr59,hm⟩:=BI hm
 refine DX [0,1,2] Q Q (aG [0,1] ⟨Q,Q,fun _=>Q⟩ Q Q Q (by decide) Q (aF Q) Q Q (bX hr59)) ?_
 iterate 2 (refine DA [0,1,2] TK Q ?_)
 obtain⟨r60,hr60,hm⟩:=BI hm
 refine DX [0,1,2] Q Q (aG [0,1] ⟨Q,Q,fun _=>Q⟩ Q Q Q (by decide) Q (aF Q) Q Q (lK hr60)) ?_
 iterate 5 (refine DA [0,1,2] TK Q ?_)
 obtain⟨r61,hr61,hm⟩:=BI hm
 refine DX [0,1,2] Q Q (RN Q Q (SC (.d _) (SC (.d _) SN)) (jO hr61)) ?_
 obtain⟨r62,hr62,hm⟩:=BI hm
 refine DX [0,1,2] Q Q (RD Q Q Q (bV hr62)) ?_
 obtain⟨r63,hr63,hm⟩:=BI hm
 refine DX [0,1,2] Q Q (RD Q Q Q (cW hr63)) (DX [0,1,2] Q Q (bF (f:=Expr.encR) (xs:=([r59,r60,r63]:List Expr)) [.tmp 171,.tmp 174,.tmp 182] TK Q Q aH Q (bB Q (aE (Expr.encR_eq _) (aE (Expr.encR_eq _) (aE (Expr.encR_eq _) aL)))) Q (aI Expr.encR_cells) Q) ?_)
 obtain⟨r64,hr64,hm⟩:=BI hm
 refine DX [0,1,2] Q Q (RD Q Q Q (cI hr64)) (DX [0,1,2] Q Q (bF (f:=Expr.encR) (xs:=([r53,r58,r64]:List Expr)) [.tmp 154,.tmp 168,.tmp 184] TK Q Q aH Q (bB Q (aE (Expr.encR_eq _) (aE (Expr.encR_eq _) (aE (Expr.encR_eq _) aL)))) Q (aI Expr.encR_cells) Q) ?_)
 obtain⟨r65,hr65,hm⟩:=BI hm
 refine DX [0,1,2] Q Q (RD Q Q Q (dQ hr65)) ?_
 refine DT ?_ (by kernel_rfl)
 obtain⟨r66,hr66,hm⟩:=BI hm
 refine dE [0,1] (fun j=>Nat.beq j 1) Q Q Q (by decide) Q Q Q Q (cY hr66) Q Q Q ?_
 refine TN (WN [0,1] Q Q (cN follows  ?_))
 iterate 6 (refine DA [0,1,2] TK Q ?_)
 obtain⟨r67,hr67,hm⟩:=BI hm
 refine DX [0,1,2] Q Q (RN Q Q (SC (.d _) (SC (.d _) (SC (.d _) SN))) (aY hr67)) ?_
 iterate 5 (refine DA [0,1,2] TK Q ?_)
 obtain⟨r68,hr68,hm⟩:=BI hm
 refine DX [0,1,2] Q Q (RN Q Q (SC (.d _) (SC (.d _) (SC (.d _) SN))) (aY hr68)) ?_
 obtain⟨r69,hr69,hm⟩:=BI hm
 refine DX [0,1,2] Q Q (RD Q Q Q (bV hr69)) ?_
 iterate 2 (refine DA [0,1,2] TK Q ?_)
 obtain⟨r70,hr70,hm⟩:=BI hm
 refine DX [0,1,2] Q Q (aG [0,1] ⟨Q,Q,fun _=>Q⟩ Q Q Q (by decide) Q (aF Q) Q Q (lY hr70)) ?_
 iterate 5 (refine DA [0,1,2] TK Q ?_)
 obtain⟨r71,hr71,hm⟩:=BI hm
 refine DX [0,1,2] Q Q (RN Q Q (SC (.d _) (SC (.d _) (SC (.d _) SN))) (aY hr71)) ?_
 obtain⟨r72,hr72,hm⟩:=BI hm
 refine DX [0,1,2] Q Q (RD Q Q Q (bV hr72)) ?_
 iterate 5 (refine DA [0,1,2] TK Q ?_)
 obtain⟨r73,hr73,hm⟩:=BI hm
 refine DX [0,1,2] Q Q (RN Q Q (SC (.d _) (SC (.d _) (SC (.d _) SN))) (aY hr73)) ?_
 obtain⟨r74,hr74,hm⟩:=BI hm
 refine DX [0,1,2] Q Q (RD Q Q Q (bV hr74)) (DX [0,1,2] Q Q (bF (f:=Expr.encR) (xs:=([r69,r70,r72,r74]:List Expr)) [.tmp 201,.tmp 204,.tmp 211,.tmp 218] TK Q Q aH Q (bB Q (aE (Expr.encR_eq _) (aE (Expr.encR_eq _) (aE (Expr.encR_eq _) (aE (Expr.encR_eq _) aL))))) Q (aI Expr.encR_cells) Q) ?_)
 obtain⟨r75,hr75,hm⟩:=BI hm
 refine DX [0,1,2] Q Q (RD Q Q Q (dQ hr75)) ?_
 refine DT ?_ (by kernel_rfl)
 obtain⟨r76,hr76,hm⟩:=BI hm
 refine dE [0,1] (fun j=>Nat.beq j 1) Q Q Q (by decide) Q Q Q Q (cY hr76) Q Q Q ?_
 refine TN ?_
 obtain rfl:=OJ hm
 exact⟨_,[0,1],res Q,by decide,(kB Q),Q,Q⟩

theorem sD {p0:Builder} {p1:Int} {r:Builder} (hm:gR p0 p1=some r):Ret Tryz.prog 33 [.box 81 [.d (.sl 14 (p0.numbering.t.routes.map Route.enc)),.d (.sl 1 (p0.numbering.t.points.map (D.int .i64))),.d (.sl 1 (p0.numbering.t.homes.map (D.int .i64))),.d (.int .i64 p0.numbering.t.sections),.d (.int .i64 p0.numbering.t.signals),.d (.int .i64 p0.numbering.inputs),.d (.sl 1 (p0.numbering.bases.map (D.int .i64))),.d (.int .i64 p0.numbering.extra),.d (.int .i64 p0.numbering.count),.msl 1 6 0 p0.rungs.length],.flat 40 6 (p0.rungs.map Rung.enc)] (fun j=>Nat.beq j 1) [.mptr 0 0 0 0,.d (.int .i64 p1)] (.tup []) [.box 81 [.d (.sl 14 (p0.numbering.t.routes.map Route.enc)),.d (.sl 1 (p0.numbering.t.points.map (D.int .i64))),.d (.sl 1 (p0.numbering.t.homes.map (D.int .i64))),.d (.int .i64 p0.numbering.t.sections),.d (.int .i64 p0.numbering.t.signals),.d (.int .i64 p0.numbering.inputs),.d (.sl 1 (p0.numbering.bases.map (D.int .i64))),.d (.int .i64 p0.numbering.extra),.d (.int .i64 p0.numbering.count),.msl 1 6 0 r.rungs.length],.flat 40 6 (r.rungs.map Rung.enc)]:=by
 refine cC zAD Tryz.func33 Q Tryz.ntmps33 Q Q (fun wX gX=>?_)
 unfold gR at hm
 refine WN [0,1] Q Q (RS ?_)
 iterate 7 (refine SA TK Q ?_)
 obtain⟨e1,he1,hm⟩:=GV hm
 refine SX Q Q (bZ TK Q Q Q Q he1) (SA TK Q (SA TK Q (SA TK Q (TN (WN [0,1,4] Q Q ?_)))))
 refine aK hm (fun b2=>([]:Fr)) (fun b2=>([(0,.box 81 [.d (.sl 14 (p0.numbering.t.routes.map Route.enc)),.d (.sl 1 (p0.numbering.t.points.map (D.int .i64))),.d (.sl 1 (p0.numbering.t.homes.map (D.int .i64))),.d (.int .i64 p0.numbering.t.sections),.d (.int .i64 p0.numbering.t.signals),.d (.int .i64 p0.numbering.inputs),.d (.sl 1 (p0.numbering.bases.map (D.int .i64))),.d (.int .i64 p0.numbering.extra),.d (.int .i64 p0.numbering.count),.msl 1 6 0 b2.length]),(1,.flat 40 6 (b2.map Rung.enc))]:List (Nat×Blk))) [] [0,1] Q (fun z3 hm=>?_) (fun b2 hm=>?_)
 ·refine RS ?_
  iterate 5 (refine SA TK Q ?_)
  obtain⟨r4,hr4,hm⟩:=BI hm
  refine SX Q Q (RN Q Q (SC (.d _) (SC (.d _) SN)) (bW hr4)) ?_
  obtain⟨g5,hm⟩:=GI hm
  refine SX Q Q (aV Q Q Q Q g5) (SA TK Q (TN (WN [0,1,4,5] Q Q (TB (aZ hm (fun (k9,b10)=>([(5,.d (.int .i64 k9))]:Fr)) (fun (k9,b10)=>([(0,.box 81 [.d (.sl 14 (p0.numbering.t.routes.map Route.enc)),.d (.sl 1 (p0.numbering.t.points.map (D.int .i64))),.d (.sl 1 (p0.numbering.t.homes.map (D.int .i64))),.d (.int .i64 p0.numbering.t.sections),.d (.int .i64 p0.numbering.t.signals),.d (.int .i64 p0.numbering.inputs),.d (.sl 1 (p0.numbering.bases.map (D.int .i64))),.d (.int .i64 p0.numbering.extra),.d (.int .i64 p0.numbering.count),.msl 1 6 0 b10.length]),(1,.flat 40 6 (b10.map Rung.enc))]:List (Nat×Blk))) [5] [0,1,4] [0,1] Q (kB Q) Q Q Q Q Q (fun s z11 hm hz11=>?_))))))
  obtain⟨k9,b10⟩:=s
  refine WN [0,1,4,5] Q Q (TQ (RS (SA TK Q (SA TK Q (TN (WN [0,1,4,5,25] Q Q ?_))))))
  refine TC _ Q (fun h12=>?_) (fun h12=>?_)
  ·replace hm:=JT h12 hm
   refine TS (WT (WN [0,1,4,5] Q Q (TQ (TB (cE follows  ?_)))))
   iterate 2 (refine DA [0,1] TK Q ?_)
   obtain⟨r13,hr13,hm⟩:=BI hm
   refine DX [0,1] Q Q (aG [0,1] ⟨Q,Q,fun _=>Q⟩ Q Q Q (by decide) Q (aF Q) Q Q (bX hr13)) ?_
   iterate 5 (refine DA [0,1] TK Q ?_)
   obtain⟨r14,hr14,hm⟩:=BI hm
   refine DX [0,1] Q Q (RN Q Q (SC (.d _) (SC (.d _) (SC (.d _) SN))) (aY hr14)) ?_
   obtain⟨r15,hr15,hm⟩:=BI hm
   refine DX [0,1] Q Q (RD Q Q Q (bV hr15)) ?_
   iterate 2 (refine DA [0,1] TK Q ?_)
   obtain⟨r16,hr16,hm⟩:=BI hm
   refine DX [0,1] Q Q (aG [0,1] ⟨Q,Q,fun _=>Q⟩ Q Q Q (by decide) Q (aF Q) Q Q (bY hr16)) ?_
   iterate 3 (refine DA [0,1] TK Q ?_)
   obtain⟨e17,he17,hm⟩:=GV hm
   refine DX [0,1] Q Q (bZ TK Q Q Q Q he17) (DA [0,1] TK Q ?_)
   obtain⟨r18,hr18,hm⟩:=BI hm
   refine DX [0,1] Q Q (aG [0,1] ⟨Q,Q,fun _=>Q⟩ Q Q Q (by decide) Q (aF Q) Q Q (cK hr18)) ?_
   iterate 3 (refine DA [0,1] TK Q ?_)
   obtain⟨g19,hm⟩:=GI hm
   refine DX [0,1] Q Q (aV Q Q Q Q g19) ?_
   obtain⟨e20,he20,hm⟩:=GV hm
   refine DX [0,1] Q Q (bZ TK Q Q Q Q he20) (DA [0,1] TK Q ?_)
   obtain⟨r21,hr21,hm⟩:=BI hm
   refine DX [0,1] Q Q (aG [0,1] ⟨Q,Q,fun _=>Q⟩ Q Q Q (by decide) Q (aF Q) Q Q (cK hr21)) ?_
   obtain⟨r22,hr22,hm⟩:=BI hm
   refine DX [0,1] Q Q (RD Q Q Q (cW hr22)) ?_
   iterate 2 (refine DA [0,1] TK Q ?_)
   obtain⟨r23,hr23,hm⟩:=BI hm
   refine DX [0,1] Q Q (aG [0,1] ⟨Q,Q,fun _=>Q⟩ Q Q Q (by decide) Q (aF Q) Q Q (bY hr23)) ?_
   refine DX [0,1] Q Q (bF (f:=Expr.encR) (xs:=([r22,r23]:List Expr)) [.tmp 54,.tmp 57] TK Q Q aH Q (bB Q (aE (Expr.encR_eq _) (aE (Expr.encR_eq _) aL))) Q (aI Expr.encR_cells) Q) ?_
   obtain⟨r24,hr24,hm⟩:=BI hm
   refine DX [0,1] Q Q (RD Q Q Q (dQ hr24)) ?_
   refine DT ?_ (by kernel_rfl)
   refine xB (f:=Expr.encR) 2 [.tmp 30,.tmp 37,.tmp 40,.tmp 46,.tmp 59] ([r13,r15,r16,r18,r24]:List Expr) TK Q Q Q aH Q (bB Q (aE (Expr.encR_eq _) (aE (Expr.encR_eq _) (aE (Expr.encR_eq _) (aE (Expr.encR_eq _) (aE (Expr.encR_eq _) aL)))))) Q (aI Expr.encR_cells) Q (SA TK Q (TN (WN [0,1,4,5,6] Q Q ?_)))
   refine aK hm (fun b25=>([(6,.msl 2 3 0 b25.length)]:Fr)) (fun b25=>([(2,.flat 38 3 (b25.map Expr.encR))]:List (Nat×Blk))) [6] [0,1,4,5] Q (fun z26 hm=>?_) (fun b25 hm=>?_)
   ·refine RS (SA TK Q (SA TK Q (TN (WN [0,1,4,5,6,62] Q Q ?_))))
    refine TC _ Q (fun h27=>?_) (fun h27=>?_)
    ·replace hm:=JT h27 hm
     refine TG ?_
     iterate 4 (refine SA TK Q ?_)
     obtain⟨g28,hm⟩:=GI hm
     refine SX Q Q (aV Q Q Q Q g28) ?_
     obtain⟨r29,hr29,hm⟩:=BI hm
     refine SX Q Q (aG [0,1] ⟨Q,Q,fun _=>Q⟩ Q Q Q (by decide) Q (aF Q) Q Q (eV hr29)) ?_
     refine SX Q Q (bF (f:=Expr.encR) (xs:=([r29]:List Expr)) [.tmp 68] TK Q Q aH Q (bB Q (aE (Expr.encR_eq _) aL)) Q (aI Expr.encR_cells) Q) ?_
     obtain⟨g30,hm⟩:=GI hm
     refine cT (f:=Expr.encR) ([r29]:List Expr) TK Q Q aH Q Q Q Q Q (fun h=>absurd (show 2 < 2 from h) (by decide)) Q cR g30 Q Q ?_
     refine SA TK Q (TN (WT ?_))
     exact⟨_,[0,1,2],(SJ hm),Q,(kB Q),Q⟩
    ·replace hm:=JF h27 hm
     refine TS (WT ?_)
     exact⟨_,[0,1,2],(SJ hm),Q,(kB Q),Q⟩
   ·refine WN [0,1,4,5,6] Q Q ?_
    refine lC 6 2 [0,1,4,5] Q Q Q Q Q (by simp) Q Q ?_
    refine cN follows  ?_
    iterate 7 (refine DA [0,1,2] TK Q ?_)
    obtain⟨g31,hm⟩:=GI hm
    refine DX [0,1,2] Q Q (aV Q Q Q Q g31) ?_
    obtain⟨r32,hr32,hm⟩:=BI hm
    refine DX [0,1,2] Q Q (RN Q Q (SC (.d _) (SC (.d _) (SC (.d _) SN))) (cH hr32)) ?_
    iterate 5 (refine DA [0,1,2] TK Q ?_)
    obtain⟨r33,hr33,hm⟩:=BI hm
    refine DX [0,1,2] Q Q (RN Q Q (SC (.d _) (SC (.d _) (SC (.d _) SN))) (aY hr33)) ?_
    obtain⟨r34,hr34,hm⟩:=BI hm
    refine DX [0,1,2] Q Q (RD Q Q Q (bV hr34)) ?_
    iterate 5 (refine DA [0,1,2] TK Q ?_)
    obtain⟨r35,hr35,hm⟩:=BI hm
    refine DX [0,1,2] Q Q (RN Q Q (SC (.d _) (SC (.d _) (SC (.d _) SN))) (aY hr35)) ?_
    obtain⟨r36,hr36,hm⟩:=BI hm
    refine DX [0,1,2] Q Q (RD Q Q Q (bV hr36)) (DX [0,1,2] Q Q (bF (f:=Expr.encR) (xs:=([r34,r36]:List Expr)) [.tmp 86,.tmp 93] TK Q Q aH Q (bB Q (aE (Expr.encR_eq _) (aE (Expr.encR_eq _) aL))) Q (aI Expr.encR_cells) Q) ?_)
    obtain⟨r37,hr37,hm⟩:=BI hm
    refine DX [0,1,2] Q Q (RD Q Q Q (dQ hr37)) ?_
    iterate 3 (refine DA [0,1,2] TK Q ?_)
    obtain⟨r38,hr38,hm⟩:=BI hm
    refine DX [0,1,2] Q Q (aG [0,1] ⟨Q,Q,fun _=>Q⟩ Q Q Q (by decide) Q (aF Q) Q Q (eV hr38)) ?_
    refine DA [0,1,2] TK Q ?_
    obtain⟨r39,hr39,hm⟩:=BI hm
    refine DX [0,1,2] Q Q (RD Q Q Q (cI hr39)) (DX [0,1,2] Q Q (bF (f:=Expr.encR) (xs:=([r38,r39]:List Expr)) [.tmp 99,.tmp 101] TK Q Q aH Q (bB Q (aE (Expr.encR_eq _) (aE (Expr.encR_eq _) aL))) Q (aI Expr.encR_cells) Q) ?_)
    obtain⟨r40,hr40,hm⟩:=BI hm
    refine DX [0,1,2] Q Q (RD Q Q Q (dQ hr40)) (DX [0,1,2] Q Q (bF (f:=Expr.encR) (xs:=([r37,r40]:List Expr)) [.tmp 95,.tmp 103] TK Q Q aH Q (bB Q (aE (Expr.encR_eq _) (aE (Expr.encR_eq _) aL))) Q (aI Expr.encR_cells) Q) ?_)
    obtain⟨r41,hr41,hm⟩:=BI hm
    refine DX [0,1,2] Q Q (RD Q Q Q (cI hr41)) ?_
    refine DT ?_ (by kernel_rfl)
    obtain⟨r42,hr42,hm⟩:=BI hm
    refine dE [0,1] (fun j=>Nat.beq j 1) Q Q Q (by decide) Q Q Q Q (cY hr42) Q Q Q ?_
    refine TN (WK (WT (WN [0,1,4,5] Q Q (TG (SA TK Q ?_)))))
    obtain⟨g43,hm⟩:=GI hm
    refine SX Q Q (aV Q Q Q Q g43) (SA TK Q (TN (WT ?_)))
    exact⟨_,[0,1],(SJ hm),Q,(kB Q),Q⟩
  ·replace hm:=JF h12 hm
   refine aJ (WX ?_)
   obtain⟨v44,hm,hz⟩:=II hm
   rw [hz11 _ hz] at hm
   refine WX (WH (WT ?_))
   exact⟨_,[0,1],(SJ hm),Q,(kB Q),Q⟩
 ·refine WN [0,1] Q Q (RS ?_)
  iterate 6 (refine SA TK Q ?_)
  obtain⟨r45,hr45,hm⟩:=BI hm
  refine SX Q Q (RN Q Q (SC (.d _) (SC (.d _) (SC (.d _) SN))) (cH hr45)) (SA TK Q (SA TK Q ?_))
  obtain⟨r46,hr46,hm⟩:=BI hm
  refine SX Q Q (aG [0,1] ⟨Q,Q,fun _=>Q⟩ Q Q Q (by decide) Q (aF Q) Q Q (lY hr46)) ?_
  obtain⟨r47,hr47,hm⟩:=BI hm
  refine dE [0,1] (fun j=>Nat.beq j 1) Q Q Q (by decide) Q Q Q Q (cY hr47) Q Q Q ?_
  refine TN (WN [0,1] Q Q (cE follows  ?_))
  iterate 6 (refine DA [0,1] TK Q ?_)
  obtain⟨r48,hr48,hm⟩:=BI hm
  refine DX [0,1] Q Q (RN Q Q (SC (.d _) (SC (.d _) (SC (.d _) SN))) (cH hr48)) ?_
  iterate 5 (refine DA [0,1] TK Q ?_)
  obtain⟨r49,hr49,hm⟩:=BI hm
  refine DX [0,1] Q Q (RN Q Q (SC (.d _) (SC (.d _) (SC (.d _) SN))) (aY hr49)) ?_
  obtain⟨r50,hr50,hm⟩:=BI hm
  refine DX [0,1] Q Q (RD Q Q Q (bV hr50)) ?_
  refine DT ?_ (by kernel_rfl)
  obtain⟨r51,hr51,hm⟩:=BI hm
  refine dE [0,1] (fun j=>Nat.beq j 1) Q Q Q (by decide) Q Q Q Q (cY hr51) Q Q Q ?_
  refine TN (WN [0,1] Q Q (cN follows  ?_))
  iterate 6 (refine DA [0,1] TK Q ?_)
  obtain⟨r52,hr52,hm⟩:=BI hm
  refine DX [0,1] Q Q (RN Q Q (SC (.d _) (SC (.d _) (SC (.d _) SN))) (cH hr52)) ?_
  iterate 5 (refine DA [0,1] TK Q ?_)
  obtain⟨r53,hr53,hm⟩:=BI hm
  refine DX [0,1] Q Q (RN Q Q (SC (.d _) (SC (.d _) (SC (.d _) SN))) (aY hr53)) ?_
  obtain⟨r54,hr54,hm⟩:=BI hm
  refine DX [0,1] Q Q (RD Q Q Q (bV hr54)) ?_
  refine DT ?_ (by kernel_rfl)
  obtain⟨r55,hr55,hm⟩:=BI hm
  refine dE [0,1] (fun j=>Nat.beq j 1) Q Q Q (by decide) Q Q Q Q (cY hr55) Q Q Q ?_
  refine TN ?_
  obtain rfl:=OJ hm
  exact⟨_,[0,1],res Q,by decide,(kB Q),Q,Q⟩

theorem iO {p0:Int} {p1:Builder} {p2:Int} {p3:Bool} {p4:(List Int)} {r0:Bool} {r1:(List Int)} (hm:bR p0 p1 p2 p3 p4=some (r0,r1)):Ret Tryz.prog 170 [.box 127 [.mptr 1 0 0 0],.box 81 [.d (.sl 14 (p1.numbering.t.routes.map Route.enc)),.d (.sl 1 (p1.numbering.t.points.map (D.int .i64))),.d (.sl 1 (p1.numbering.t.homes.map (D.int .i64))),.d (.int .i64 p1.numbering.t.sections),.d (.int .i64 p1.numbering.t.signals),.d (.int .i64 p1.numbering.inputs),.d (.sl 1 (p1.numbering.bases.map (D.int .i64))),.d (.int .i64 p1.numbering.extra),.d (.int .i64 p1.numbering.count),.msl 2 6 0 p1.rungs.length],.flat 40 6 (p1.rungs.map Rung.enc),.box 3 [.d (.int .i64 p2)],.box 4 [.d (.bool (p3))],.box 23 [.msl 6 1 0 p4.length],.flat 3 1 (p4.map (D.int .i64))] (fun j=>Nat.beq j 6) [.d (.int .i64 p0),.mptr 0 0 0 0,.mptr 3 0 0 0,.mptr 4 0 0 0,.mptr 5 0 0 0] (.tup []) [.box 127 [.mptr 1 0 0 0],.box 81 [.d (.sl 14 (p1.numbering.t.routes.map Route.enc)),.d (.sl 1 (p1.numbering.t.points.map (D.int .i64))),.d (.sl 1 (p1.numbering.t.homes.map (D.int .i64))),.d (.int .i64 p1.numbering.t.sections),.d (.int .i64 p1.numbering.t.signals),.d (.int .i64 p1.numbering.inputs),.d (.sl 1 (p1.numbering.bases.map (D.int .i64))),.d (.int .i64 p1.numbering.extra),.d (.int .i64 p1.numbering.count),.msl 2 6 0 p1.rungs.length],.flat 40 6 (p1.rungs.map Rung.enc),.box 3 [.d (.int .i64 p2)],.box 4 [.d (.bool (r0))],.box 23 [.msl 6 1 0 r1.length],.flat 3 1 (r1.map (D.int .i64))]:=by
 refine cC qTU Tryz.func170 Q Tryz.ntmps170 Q Q (fun wX gX=>?_)
 unfold bR at hm
 refine WN [0,1,2,3,4] Q Q ?_
 refine aK hm (fun x1=>([(17,.d (.bool (x1)))]:Fr)) (fun x1=>([]:List (Nat×Blk))) [17] [0,3,4] Q (fun z2 hm=>?_) (fun x1 hm=>?_)
 ·refine cN follows  ?_
  iterate 2 (refine DA [0,1,2,3,4,5,6] TK Q ?_)
  refine d_b [0,1,2,3,4,5,6] TK Q (fun q3 hq3=>?_)
  cases q3
  ·replace hm:=JF hq3 hm
   iterate 6 (refine DA [0,1,2,3,4,5,6] TK Q ?_)
   obtain⟨r4,hr4,hm⟩:=BI hm
   refine DX [0,1,2,3,4,5,6] Q Q (RN Q Q (SC (.d _) (SC (.d _) SN)) (bW hr4)) ?_
   iterate 2 (refine DA [0,1,2,3,4,5,6] TK Q ?_)
   refine DT ?_ (by kernel_rfl)
   refine TN (WT ?_)
   exact⟨_,[0,1,2,3,4,5,6],(SJ hm),Q,(kB Q),Q⟩
  ·replace hm:=JT hq3 hm
   iterate 9 (refine DA [0,1,2,3,4,5,6] TK Q ?_)
   refine DT ?_ (by kernel_rfl)
   refine TN (WT ?_)
   exact⟨_,[0,1,2,3,4,5,6],(SJ hm),Q,(kB Q),Q⟩
 ·refine WN [0,3,4,17] Q Q ?_
  refine TC _ Q (fun h5=>?_) (fun h5=>?_)
  ·replace hm:=JA h5 hm
   refine TG (SA TK Q (TN ?_))
   obtain⟨rfl,rfl⟩:=Prod.mk.inj (Option.some.inj hm)
   exact⟨_,[0,1,2,3,4,5,6],res Q,by decide,(kB Q),Q,Q⟩
  ·replace hm:=JB h5 hm
   refine RS (SA TK Q (SA TK Q ?_))
   obtain⟨r6,hr6,hm⟩:=BI hm
   refine SX Q Q (RN Q Q (SC (eO Q) (SC (.d _) SN)) (gO hr6)) (SA TK Q (TN (WN [0,4,21] Q Q ?_)))
   refine TC _ Q (fun h7=>?_) (fun h7=>?_)
   ·replace hm:=JA h7 hm
    refine TG (SA TK Q (SA TK Q (SX Q Q (dW [.tmp 23] TK Q Q lI Q Q Q Q Q) ?_)))
    obtain⟨g8,hm⟩:=GI hm
    refine cT (f:=(D.int .i64)) ([p0]:List Int) TK Q Q lI Q Q Q Q Q (fun _=>Q) Q cR g8 Q Q (SA TK Q (TN ?_))
    obtain⟨rfl,rfl⟩:=Prod.mk.inj (Option.some.inj hm)
    exact⟨_,[0,1,2,3,4,5,6],res Q,by decide,(kB Q),Q,Q⟩
   ·replace hm:=JB h7 hm
    refine TS ?_
    obtain⟨rfl,rfl⟩:=Prod.mk.inj (Option.some.inj hm)
    exact⟨_,[0,1,2,3,4,5,6],res Q,by decide,(kB Q),Q,Q⟩

theorem rJ {p0:Builder} {p1:Int} {p2:Int} {r0:Bool} {r1:(List Int)} (hm:gH p0 p1 p2=some (r0,r1)):Ret Tryz.prog 144 [.box 81 [.d (.sl 14 (p0.numbering.t.routes.map Route.enc)),.d (.sl 1 (p0.numbering.t.points.map (D.int .i64))),.d (.sl 1 (p0.numbering.t.homes.map (D.int .i64))),.d (.int .i64 p0.numbering.t.sections),.d (.int .i64 p0.numbering.t.signals),.d (.int .i64 p0.numbering.inputs),.d (.sl 1 (p0.numbering.bases.map (D.int .i64))),.d (.int .i64 p0.numbering.extra),.d (.int .i64 p0.numbering.count),.msl 1 6 0 p0.rungs.length],.flat 40 6 (p0.rungs.map Rung.enc)] (fun _=>false) [.mptr 0 0 0 0,.d (.int .i64 p1),.d (.int .i64 p2)] (.tup [.d (.bool (r0)),.d (.sl 1 (r1.map (D.int .i64)))]) [.box 81 [.d (.sl 14 (p0.numbering.t.routes.map Route.enc)),.d (.sl 1 (p0.numbering.t.points.map (D.int .i64))),.d (.sl 1 (p0.numbering.t.homes.map (D.int .i64))),.d (.int .i64 p0.numbering.t.sections),.d (.int .i64 p0.numbering.t.signals),.d (.int .i64 p0.numbering.inputs),.d (.sl 1 (p0.numbering.bases.map (D.int .i64))),.d (.int .i64 p0.numbering.extra),.d (.int .i64 p0.numbering.count),.msl 1 6 0 p0.rungs.length],.flat 40 6 (p0.rungs.map Rung.enc)]:=by
 refine cC qUH Tryz.func144 Q Tryz.ntmps144 Q Q (fun wX gX=>?_)
 unfold gH at hm
 refine WN [0,1,2] Q Q (RS (eR 2 Q Q Q (eR 3 Q Q Q (SA TK Q (SA TK Q (TN (WN [1,3,5] Q Q (gC (gC ?_)))))))))
 refine cE follows  (DA [2] TK Q ?_)
 iterate 4 (refine DA [] TK Q ?_)
 refine DA [0] TK Q (DA [] TK Q ?_)
 obtain⟨e1,he1,hm⟩:=GV hm
 refine DX [] Q Q (bZ TK Q Q Q Q he1) (DA [] TK Q (DA [2] TK Q ?_))
 iterate 4 (refine DA [] TK Q ?_)
 refine DA [0] TK Q (DA [3] TK Q ?_)
 obtain⟨e2,he2,hm⟩:=GV hm
 refine DX [] Q Q (bZ TK Q Q Q Q he2) (DA [] TK Q (tB [4] _ (.mptr 4 0 0 0) Q (jZ Q) Q (kM Q Q iH Q Q) (tB [5] _ (.mptr 5 0 0 0) Q (jZ Q) Q (kM Q Q iH Q Q) (qXO 1000004 [4] [(4,.box 74 [.d (.str e1.name),.d (.int .i64 e1.entry),.d (.int .i64 e1.exit),.d (.sl 3 (e1.path.map Step.enc)),.d (.sl 2 (e1.points.map Setting.enc)),.d (.sl 1 (e1.sections.map (D.int .i64))),.d (.int .i64 e1.approach),.d (.int .i64 e1.length),.d (.sl 3 (e1.over.map Step.enc)),.d (.sl 2 (e1.overPoints.map Setting.enc)),.d (.sl 1 (e1.overSections.map (D.int .i64))),.d (.sl 2 (e1.flank.map Setting.enc)),.d (.sl 1 (e1.guards.map (D.int .i64))),.d (.sl 2 (e1.gaps.map End.enc))])] (jZ Q) Q (qQU TK Q Q Q Q Q Q Q Q Q Q) ?_))))
 refine DT ?_ (by kernel_rfl)
 refine SA TK Q (TN (WN [3,5,8,9] Q Q (cE follows  ?_)))
 iterate 2 (refine DA [0,1,2,3,4,5] TK Q ?_)
 obtain⟨r3,hr3,hm⟩:=BI hm
 refine DX [0,1,2,3,4,5] Q Q (RN Q Q (SC (.d _) (SC (.d _) SN)) (qC hr3)) ?_
 iterate 2 (refine DA [0,1,2,3,4,5] TK Q ?_)
 obtain⟨r4,hr4,hm⟩:=BI hm
 refine DX [0,1,2,3,4,5] Q Q (RN Q Q (SC (.d _) (SC (.d _) SN)) (qC hr4)) ?_
 refine DT ?_ (by kernel_rfl)
 refine SA TK Q (SA TK Q (TN (WN [3,5,8,9,10,11] Q Q (RS (dA 6 Q Q oF Q (SA TK Q (TN (WN [3,5,8,9,10,11,12] Q Q (RS ?_)))))))))
 refine dA 7 Q Q qGF Q (jR (f:=(D.int .i64)) 7 0 8 3 1 Q Q Q (TN (WN [3,5,8,9,10,11,12,13] Q Q (RS (SX Q Q (qAJ Q) (SA TK Q (TN (WN [3,8,9,10,11,12,13,14] Q Q ?_))))))))
 refine aK hm (fun (c5,b6)=>([]:Fr)) (fun (c5,b6)=>([(6,.box 4 [.d (.bool (c5))]),(7,.box 23 [.msl 8 1 0 b6.length]),(8,.flat 3 1 (b6.map (D.int .i64)))]:List (Nat×Blk))) [] [3,8,9,10,11,12,13,14] Q (fun z7 hm=>?_) (fun j hm=>?_)
 ·refine RS (SA TK Q (SA TK Q (SX Q Q (aT TK Q Q Q) (SA TK Q (TN (WN [3, 8, 9, 10, 11, 12, 13, 14, 50, 51, 52] Q Q (TB (aZ hm (fun (x12, c13, b14) => ([(52, .d (.int .i64 x12))] : Fr)) (fun (x12, c13, b14) => ([(6, .box 4 [.d (.bool (c13))]), (7, .box 23 [.msl 8 1 0 b14.length]), (8, .flat 3 1 (b14.map (D.int .i64)))] : List (Nat × Blk))) [52] [3, 8, 9, 10, 11, 12, 13, 14, 50, 51] [0, 1, 2, 3, 4, 5, 6, 7, 8] Q (kB Q) Q Q Q Q Q (fun s z15 hm hz15 => ?_)))))))))
  obtain⟨x12,c13,b14⟩:=s
  refine WN [3,8,9,10,11,12,13,14,50,51,52] Q Q (RS (SA TK Q (TN (WN [3,8,9,10,11,12,13,14,50,51,52,53] Q Q (TQ ?_)))))
  refine TC _ Q (fun h16=>?_) (fun h16=>?_)
  ·replace hm:=JT h16 hm
   refine TS (WT (WN [3,8,9,10,11,12,13,14,50,51,52] Q Q (TQ (TB (RS ?_)))))
   obtain⟨e17,he17,hm⟩:=GV hm
   refine SX Q Q (bZ TK Q Q Q Q he17) (SA TK Q (SA TK Q (TN (WN [3,8,9,10,11,12,13,14,16,50,51,52] Q Q ?_))))
   refine aK hm (fun (c18,b19)=>([]:Fr)) (fun (c18,b19)=>([(6,.box 4 [.d (.bool (c18))]),(7,.box 23 [.msl 8 1 0 b19.length]),(8,.flat 3 1 (b19.map (D.int .i64)))]:List (Nat×Blk))) [] [3,8,9,10,11,12,13,14,16,50,51,52] Q (fun z20 hm=>?_) (fun j hm=>?_)
   ·refine RS (SA TK Q (SA TK Q (SA TK Q ?_)))
    obtain⟨r21,hr21,hm⟩:=BI hm
    refine SX Q Q (RN Q Q (SC (.d _) (SC (.d _) SN)) (iX hr21)) (SA TK Q (TN (WN [3,8,9,10,11,12,13,14,16,17,50,51,52] Q Q (RS (SA TK Q (SA TK Q (TN (WN [3,8,9,10,11,12,13,14,16,17,50,51,52,61] Q Q ?_))))))))
    refine TC _ Q (fun h22=>?_) (fun h22=>?_)
    ·replace hm:=JT h22 hm
     refine TG (SA TK Q (SA TK Q ?_))
     obtain⟨r23,hr23,hm⟩:=BI hm
     obtain⟨r24,r25⟩:=r23
     refine dE [2,0,1,3,6,7,8] (fun j=>Nat.beq j 6) Q Q Q (by decide) Q Q Q Q (iO hr23) Q Q Q ?_
     refine TN (WT ?_)
     exact⟨_,[0,1,2,3,4,5,6,7,8],(SJ hm),Q,(kB Q),Q⟩
    ·replace hm:=JF h22 hm
     refine TS (WT ?_)
     exact⟨_,[0,1,2,3,4,5,6,7,8],(SJ hm),Q,(kB Q),Q⟩
   ·obtain⟨c18,b19⟩:=j
    refine WN [3,8,9,10,11,12,13,14,16,50,51,52] Q Q (TG (SA TK Q (SB TK Q (fun q26 hq26=>?_))))
    cases q26
    ·replace hm:=JB hq26 hm
     refine SA TK Q (SA TK Q (SA TK Q ?_))
     obtain⟨r27,hr27,hm⟩:=BI hm
     refine SX Q Q (RN Q Q (SC (.d _) (SC (.d _) SN)) (gO hr27)) (SB TK Q (fun q28 hq28=>?_))
     cases q28
     ·replace hm:=JB hq28 hm
      iterate 5 (refine SA TK Q ?_)
      refine TN (WK (WT (WN [3,8,9,10,11,12,13,14,50,51,52] Q Q (TG ?_))))
      obtain⟨g29,hm⟩:=GI hm
      refine SX Q Q (aV Q Q Q Q g29) (SA TK Q (TN (WT ?_)))
      exact⟨_,[0,1,2,3,4,5,6,7,8],(SJ hm),Q,(kB Q),Q⟩
     ·replace hm:=JA hq28 hm
      iterate 5 (refine SA TK Q ?_)
      refine TN (WK (WT (WN [3,8,9,10,11,12,13,14,50,51,52] Q Q (TG ?_))))
      obtain⟨g30,hm⟩:=GI hm
      refine SX Q Q (aV Q Q Q Q g30) (SA TK Q (TN (WT ?_)))
      exact⟨_,[0,1,2,3,4,5,6,7,8],(SJ hm),Q,(kB Q),Q⟩
    ·replace hm:=JA hq26 hm
     iterate 10 (refine SA TK Q ?_)
     refine TN (WK (WT (WN [3,8,9,10,11,12,13,14,50,51,52] Q Q (TG ?_))))
     obtain⟨g31,hm⟩:=GI hm
     refine SX Q Q (aV Q Q Q Q g31) (SA TK Q (TN (WT ?_)))
     exact⟨_,[0,1,2,3,4,5,6,7,8],(SJ hm),Q,(kB Q),Q⟩
  ·replace hm:=JF h16 hm
   refine aJ (WX ?_)
   obtain⟨v32,hm,hz⟩:=II hm
   rw [hz15 _ hz] at hm
   refine WX (WH (WT ?_))
   exact⟨_,[0,1,2,3,4,5,6,7,8],(SJ hm),Q,(kB Q),Q⟩
 ·obtain⟨c5,b6⟩:=j
  refine WN [3,8,9,10,11,12,13,14] Q Q ?_
  refine aK hm (fun (c33,b34)=>([]:Fr)) (fun (c33,b34)=>([(6,.box 4 [.d (.bool (c33))]),(7,.box 23 [.msl 8 1 0 b34.length]),(8,.flat 3 1 (b34.map (D.int .i64)))]:List (Nat×Blk))) [] [3,8,9,12,13,14] Q (fun z35 hm=>?_) (fun j hm=>?_)
  ·refine RS (SA TK Q (SA TK Q (SX Q Q (aT TK Q Q Q) (SA TK Q (TN (WN [3, 8, 9, 10, 11, 12, 13, 14, 78, 79, 80] Q Q (TB (aZ hm (fun (x40, c41, b42) => ([(80, .d (.int .i64 x40))] : Fr)) (fun (x40, c41, b42) => ([(6, .box 4 [.d (.bool (c41))]), (7, .box 23 [.msl 8 1 0 b42.length]), (8, .flat 3 1 (b42.map (D.int .i64)))] : List (Nat × Blk))) [80] [3, 8, 9, 10, 11, 12, 13, 14, 78, 79] [0, 1, 2, 3, 4, 5, 6, 7, 8] Q (kB Q) Q Q Q Q Q (fun s z43 hm hz43 => ?_)))))))))
   obtain⟨x40,c41,b42⟩:=s
   refine WN [3,8,9,10,11,12,13,14,78,79,80] Q Q (RS (SA TK Q (TN (WN [3,8,9,10,11,12,13,14,78,79,80,81] Q Q (TQ ?_)))))
   refine TC _ Q (fun h44=>?_) (fun h44=>?_)
   ·replace hm:=JT h44 hm
    refine TS (WT (WN [3,8,9,10,11,12,13,14,78,79,80] Q Q (TQ (TB (RS ?_)))))
    obtain⟨e45,he45,hm⟩:=GV hm
    refine SX Q Q (bZ TK Q Q Q Q he45) (SA TK Q (SA TK Q (TN (WN [3,8,9,10,11,12,13,14,19,78,79,80] Q Q ?_))))
    refine aK hm (fun (c46,b47)=>([]:Fr)) (fun (c46,b47)=>([(6,.box 4 [.d (.bool (c46))]),(7,.box 23 [.msl 8 1 0 b47.length]),(8,.flat 3 1 (b47.map (D.int .i64)))]:List (Nat×Blk))) [] [3,8,9,10,11,12,13,14,19,78,79,80] Q (fun z48 hm=>?_) (fun j hm=>?_)
    ·refine RS (SA TK Q (SA TK Q (SA TK Q ?_)))
     obtain⟨r49,hr49,hm⟩:=BI hm
     refine SX Q Q (RN Q Q (SC (.d _) (SC (.d _) SN)) (iX hr49)) (SA TK Q (TN (WN [3,8,9,10,11,12,13,14,19,20,78,79,80] Q Q ?_)))
     refine kQ [(93,.d (.bool (((decide ((0:Int)≤r49))&&(!(r4))))))] [93] [3,8,9,10,11,12,13,14,19,20,78,79,80] Q ?_ ?_
     ·refine TG (SA TK Q (SA TK Q (SB TK Q (fun q50 hq50 => ?_))))
      cases q50
      ·refine SA TK Q (SA TK Q (SA TK Q (TN (WT ?_))))
       exact⟨[0,1,2,3,4,5,6,7,8],Q,(kB Q),dZ (bS (bT (by simp [hq50])) Q) Q⟩
      ·refine SA TK Q (SA TK Q (SA TK Q (TN (WT ?_))))
       exact⟨[0,1,2,3,4,5,6,7,8],Q,(kB Q),dZ (bS (bT (by simp [hq50])) Q) Q⟩
     ·refine WN [3,8,9,10,11,12,13,14,19,20,78,79,80,93] Q Q ?_
      refine TC _ Q (fun h51=>?_) (fun h51=>?_)
      ·replace hm:=JA h51 hm
       refine TG (SA TK Q (SA TK Q ?_))
       obtain⟨r52,hr52,hm⟩:=BI hm
       obtain⟨r53,r54⟩:=r52
       refine dE [2,0,1,3,6,7,8] (fun j=>Nat.beq j 6) Q Q Q (by decide) Q Q Q Q (iO hr52) Q Q Q ?_
       refine TN (WT ?_)
       exact⟨_,[0,1,2,3,4,5,6,7,8],(SJ hm),Q,(kB Q),Q⟩
      ·replace hm:=JB h51 hm
       refine TS (WT ?_)
       exact⟨_,[0,1,2,3,4,5,6,7,8],(SJ hm),Q,(kB Q),Q⟩
    ·obtain⟨c46,b47⟩:=j
     refine WN [3,8,9,10,11,12,13,14,19,78,79,80] Q Q (TG (SA TK Q (SB TK Q (fun q55 hq55=>?_))))
     cases q55
     ·replace hm:=JB hq55 hm
      refine SA TK Q (SA TK Q (SA TK Q ?_))
      obtain⟨r56,hr56,hm⟩:=BI hm
      refine SX Q Q (RN Q Q (SC (.d _) (SC (.d _) SN)) (gO hr56)) (SB TK Q (fun q57 hq57=>?_))
      cases q57
      ·replace hm:=JB hq57 hm
       iterate 9 (refine SA TK Q ?_)
       refine TN (WK (WT (WN [3,8,9,10,11,12,13,14,78,79,80] Q Q (TG ?_))))
       obtain⟨g58,hm⟩:=GI hm
       refine SX Q Q (aV Q Q Q Q g58) (SA TK Q (TN (WT ?_)))
       exact⟨_,[0,1,2,3,4,5,6,7,8],(SJ hm),Q,(kB Q),Q⟩
      ·replace hm:=JA hq57 hm
       refine SA TK Q (SA TK Q (SA TK Q (SB TK Q (fun q59 hq59=>?_))))
       cases q59
       ·replace hm:=JB hq59 hm
        iterate 5 (refine SA TK Q ?_)
        refine TN (WK (WT (WN [3,8,9,10,11,12,13,14,78,79,80] Q Q (TG ?_))))
        obtain⟨g60,hm⟩:=GI hm
        refine SX Q Q (aV Q Q Q Q g60) (SA TK Q (TN (WT ?_)))
        exact⟨_,[0,1,2,3,4,5,6,7,8],(SJ hm),Q,(kB Q),Q⟩
       ·replace hm:=JA hq59 hm
        iterate 5 (refine SA TK Q ?_)
        refine TN (WK (WT (WN [3,8,9,10,11,12,13,14,78,79,80] Q Q (TG ?_))))
        obtain⟨g61,hm⟩:=GI hm
        refine SX Q Q (aV Q Q Q Q g61) (SA TK Q (TN (WT ?_)))
        exact⟨_,[0,1,2,3,4,5,6,7,8],(SJ hm),Q,(kB Q),Q⟩
     ·replace hm:=JA hq55 hm
      iterate 14 (refine SA TK Q ?_)
      refine TN (WK (WT (WN [3,8,9,10,11,12,13,14,78,79,80] Q Q (TG ?_))))
      obtain⟨g62,hm⟩:=GI hm
      refine SX Q Q (aV Q Q Q Q g62) (SA TK Q (TN (WT ?_)))
      exact⟨_,[0,1,2,3,4,5,6,7,8],(SJ hm),Q,(kB Q),Q⟩
   ·replace hm:=JF h44 hm
    refine aJ (WX ?_)
    obtain⟨v63,hm,hz⟩:=II hm
    rw [hz43 _ hz] at hm
    refine WX (WH (WT ?_))
    exact⟨_,[0,1,2,3,4,5,6,7,8],(SJ hm),Q,(kB Q),Q⟩
  ·obtain⟨c33,b34⟩:=j
   refine WN [3,8,9,12,13,14] Q Q ?_
   refine aK hm (fun (c64,b65)=>([]:Fr)) (fun (c64,b65)=>([(6,.box 4 [.d (.bool (c64))]),(7,.box 23 [.msl 8 1 0 b65.length]),(8,.flat 3 1 (b65.map (D.int .i64)))]:List (Nat×Blk))) [] [12,13] Q (fun z66 hm=>?_) (fun j hm=>?_)
   ·refine RS (SA TK Q ?_)
    obtain⟨r67,hr67,hm⟩:=BI hm
    refine SX Q Q (RD Q Q Q (lE hr67)) (SX Q Q (aT TK Q Q Q) (SA TK Q (TN (WN [3,9,12,13,14,114,115,116] Q Q (TB (aZ hm (fun (x72,c73,b74)=>([(116,.d (.int .i64 x72))]:Fr)) (fun (x72,c73,b74)=>([(6,.box 4 [.d (.bool (c73))]),(7,.box 23 [.msl 8 1 0 b74.length]),(8,.flat 3 1 (b74.map (D.int .i64)))]:List (Nat×Blk))) [116] [3,9,12,13,14,114,115] [0,1,2,3,4,5,6,7,8] Q (kB Q) Q Q Q Q Q (fun s z75 hm hz75=>?_)))))))
    obtain⟨x72,c73,b74⟩:=s
    refine WN [3,9,12,13,14,114,115,116] Q Q (RS (SA TK Q (TN (WN [3,9,12,13,14,114,115,116,117] Q Q (TQ ?_)))))
    refine TC _ Q (fun h76=>?_) (fun h76=>?_)
    ·replace hm:=JT h76 hm
     refine TS (WT (WN [3,9,12,13,14,114,115,116] Q Q (TQ (TB (RS ?_)))))
     obtain⟨e77,he77,hm⟩:=GV hm
     refine SX Q Q (bZ TK Q Q Q Q he77) (SA TK Q (dA 9 Q Q fU Q (SA TK Q (TN (WN [3,9,12,13,14,22,114,115,116] Q Q (RS ?_))))))
     iterate 4 (refine SA TK Q ?_)
     obtain⟨g78,hm⟩:=GI hm
     refine SX Q Q (aV Q Q Q Q g78) (SX Q Q (dJ Q qLX fU Q Q Q Q) (dA 10 Q Q fU Q (SA TK Q (TN (WN [3,9,12,13,14,22,23,114,115,116] Q Q ?_)))))
     refine aK hm (fun x79=>([(135,.d (.bool (x79)))]:Fr)) (fun x79=>([]:List (Nat×Blk))) [135] [3,9,12,13,14,22,23,114,115,116] Q (fun z80 hm=>?_) (fun x79 hm=>?_)
     ·refine TG (SA TK Q (SA TK Q (SA TK Q ?_)))
      obtain⟨r81,hr81,hm⟩:=BI hm
      refine SX Q Q (RN Q Q (SC (.d _) (SC (.d _) SN)) (jC hr81)) (SB TK Q (fun q82 hq82=>?_))
      cases q82
      ·replace hm:=JB hq82 hm
       refine SA TK Q (SA TK Q (SA TK Q ?_))
       obtain⟨r83,hr83,hm⟩:=BI hm
       refine SX Q Q (RN Q Q (SC (.d _) (SC (.d _) SN)) (jC hr83)) (SA TK Q (TN (WT ?_)))
       exact⟨_,[0,1,2,3,4,5,6,7,8,9,10],(SJ hm),Q,(kB Q),Q⟩
      ·replace hm:=JA hq82 hm
       iterate 5 (refine SA TK Q ?_)
       refine TN (WT ?_)
       exact⟨_,[0,1,2,3,4,5,6,7,8,9,10],(SJ hm),Q,(kB Q),Q⟩
     ·refine WN [3,9,12,13,14,22,23,114,115,116,135] Q Q ?_
      refine TC _ Q (fun h84=>?_) (fun h84=>?_)
      ·replace hm:=JA h84 hm
       refine TG (SA TK Q (TN (WK (WT (WN [3,9,12,13,14,114,115,116] Q Q (TG ?_))))))
       obtain⟨g85,hm⟩:=GI hm
       refine SX Q Q (aV Q Q Q Q g85) (SA TK Q (TN (WT ?_)))
       exact⟨_,[0,1,2,3,4,5,6,7,8],(SJ hm),Q,(kB Q),Q⟩
      ·replace hm:=JB h84 hm
       refine RS (SA TK Q (SA TK Q (SA TK Q ?_)))
       obtain⟨r86,hr86,hm⟩:=BI hm
       refine SX Q Q (RN Q Q (SC (.d _) (SC (.d _) SN)) (jC hr86)) (TN (WN [3,9,12,13,14,22,114,115,116,139] Q Q ?_))
       refine TC _ Q (fun h87=>?_) (fun h87=>?_)
       ·replace hm:=JA h87 hm
        refine cN follows  ?_
        iterate 16 (refine DA [0,1,2,3,4,5,6,7,8,9,10] TK Q ?_)
        obtain⟨r88,hr88,hm⟩:=BI hm
        refine DX [0,1,2,3,4,5,6,7,8,9,10] Q Q (RN Q Q (SC (.d _) (SC (.d _) SN)) (lQ hr88)) ?_
        obtain⟨e89,he89,hm⟩:=GV hm
        refine DX [0,1,2,3,4,5,6,7,8,9,10] Q Q (bZ TK Q Q Q Q he89) (DA [0,1,2,3,4,5,6,7,8,9,10] TK Q ?_)
        obtain⟨r90,hr90,hm⟩:=BI hm
        refine DX [0,1,2,3,4,5,6,7,8,9,10] Q Q (RN Q Q (SC (.d _) (SC (.d _) SN)) (iX hr90)) ?_
        refine DT ?_ (by kernel_rfl)
        obtain⟨r91,hr91,hm⟩:=BI hm
        obtain⟨r92,r93⟩:=r91
        refine dE [2,0,1,3,6,7,8] (fun j=>Nat.beq j 6) Q Q Q (by decide) Q Q Q Q (iO hr91) Q Q Q ?_
        refine TN (WK (WT (WN [3,9,12,13,14,114,115,116] Q Q (TG ?_))))
        obtain⟨g94,hm⟩:=GI hm
        refine SX Q Q (aV Q Q Q Q g94) (SA TK Q (TN (WT ?_)))
        exact⟨_,[0,1,2,3,4,5,6,7,8],(SJ hm),Q,(kB Q),Q⟩
       ·replace hm:=JB h87 hm
        refine TS (WK (WT (WN [3,9,12,13,14,114,115,116] Q Q (TG ?_))))
        obtain⟨g95,hm⟩:=GI hm
        refine SX Q Q (aV Q Q Q Q g95) (SA TK Q (TN (WT ?_)))
        exact⟨_,[0,1,2,3,4,5,6,7,8],(SJ hm),Q,(kB Q),Q⟩
    ·replace hm:=JF h76 hm
     refine aJ (WX ?_)
     obtain⟨v96,hm,hz⟩:=II hm
     rw [hz75 _ hz] at hm
     refine WX (WH (WT ?_))
     exact⟨_,[0,1,2,3,4,5,6,7,8],(SJ hm),Q,(kB Q),Q⟩
   ·obtain⟨c64,b65⟩:=j
    refine WN [12,13] Q Q (cE follows  ?_)
    iterate 3 (refine DA [0,1,2,3,4,5,6,7,8] TK Q ?_)
    refine DT ?_ (by kernel_rfl)
    refine SA TK Q (TN (WN [6,7] Q Q ?_))
    refine lC 7 8 [6] Q Q Q Q Q (by simp) Q Q ?_
    refine TR ?_
    obtain⟨rfl,rfl⟩:=Prod.mk.inj (Option.some.inj hm)
    exact⟨_,[0,1],res Q,by decide,(kB Q),Q,Q⟩

end Go.Proofs.YtcagmechagiclaaGreatDoor

set_option maxHeartbeats 8000000
set_option linter.unusedSimpArgs false
set_option linter.unusedVariables false
set_option maxRecDepth 20000
namespace Go.Proofs.YtcagmechagiclaaGreatDoor
open Go Go.TL

theorem sE {p0:Builder} {p1:Int} {p2:Int} {r:(List Expr)} (hm:gS p0 p1 p2=some r):Ret Tryz.prog 93 [.box 81 [.d (.sl 14 (p0.numbering.t.routes.map Route.enc)),.d (.sl 1 (p0.numbering.t.points.map (D.int .i64))),.d (.sl 1 (p0.numbering.t.homes.map (D.int .i64))),.d (.int .i64 p0.numbering.t.sections),.d (.int .i64 p0.numbering.t.signals),.d (.int .i64 p0.numbering.inputs),.d (.sl 1 (p0.numbering.bases.map (D.int .i64))),.d (.int .i64 p0.numbering.extra),.d (.int .i64 p0.numbering.count),.msl 1 6 0 p0.rungs.length],.flat 40 6 (p0.rungs.map Rung.enc)] (fun _=>false) [.mptr 0 0 0 0,.d (.int .i64 p1),.d (.int .i64 p2)] (.d (.sl 3 (r.map Expr.encR))) [.box 81 [.d (.sl 14 (p0.numbering.t.routes.map Route.enc)),.d (.sl 1 (p0.numbering.t.points.map (D.int .i64))),.d (.sl 1 (p0.numbering.t.homes.map (D.int .i64))),.d (.int .i64 p0.numbering.t.sections),.d (.int .i64 p0.numbering.t.signals),.d (.int .i64 p0.numbering.inputs),.d (.sl 1 (p0.numbering.bases.map (D.int .i64))),.d (.int .i64 p0.numbering.extra),.d (.int .i64 p0.numbering.count),.msl 1 6 0 p0.rungs.length],.flat 40 6 (p0.rungs.map Rung.enc)]:=by
 refine cC qYC Tryz.func93 Q Tryz.ntmps93 Q Q (fun wX gX=>?_)
 unfold gS at hm
 refine WN [0,1,2] Q Q (RS (SA TK Q (TN (WN [0,1,2] Q Q (RS (SA TK Q (SA TK Q (SA TK Q ?_))))))))
 obtain⟨r1,hr1,hm⟩:=BI hm
 obtain⟨r2,r3⟩:=r1
 refine SX Q Q (aG [0,1] ⟨Q,Q,fun _=>Q⟩ Q Q Q (by decide) Q (aF Q) Q Q (rJ hr1)) ?_
 iterate 5 (refine SA TK Q ?_)
 refine TN (WN [0,1,2,7,8] Q Q (RS ?_))
 iterate 5 (refine SA TK Q ?_)
 obtain⟨r4,hr4,hm⟩:=BI hm
 refine SX Q Q (RN Q Q (SC (.d _) (SC (.d _) (SC (.d _) SN))) (aY hr4)) ?_
 obtain⟨r5,hr5,hm⟩:=BI hm
 refine SX Q Q (RD Q Q Q (bV hr5)) (dA 2 Q Q aH Q (cO 2 [none,none,some 3] Q Q (SA TK Q (TN (WN [0,1,2,7,8,9] Q Q ?_)))))
 refine aK hm (fun (c6,c7,c8)=>([]:Fr)) (fun (c6,c7,c8)=>([(2,.box 38 [.d (.int .i64 c6),.d (.int .i64 c7),.d (.sl 3 (c8.map Expr.encR))])]:List (Nat×Blk))) [] [0,2,7,8,9] Q (fun z9 hm=>?_) (fun j hm=>?_)
 ·refine RS (SA TK Q (SA TK Q (SA TK Q (TN (WN [0,2,7,8,9,30] Q Q ?_)))))
  refine TC _ Q (fun h10=>?_) (fun h10=>?_)
  ·replace hm:=JT h10 hm
   refine cN follows  ?_
   iterate 6 (refine DA [0,1,2] TK Q ?_)
   obtain⟨r11,hr11,hm⟩:=BI hm
   refine DX [0,1,2] Q Q (RN Q Q (SC (.d _) (SC (.d _) (SC (.d _) SN))) (aY hr11)) ?_
   obtain⟨r12,hr12,hm⟩:=BI hm
   refine DX [0,1,2] Q Q (RD Q Q Q (bV hr12)) (DX [0,1,2] Q Q (bF (f:=Expr.encR) (xs:=([r5,r12]:List Expr)) [.tmp 31,.tmp 38] TK Q Q aH Q (bB Q (aE (Expr.encR_eq _) (aE (Expr.encR_eq _) aL))) Q (aI Expr.encR_cells) Q) ?_)
   obtain⟨r13,hr13,hm⟩:=BI hm
   refine DX [0,1,2] Q Q (RD Q Q Q (dQ hr13)) ?_
   refine DT ?_ (by kernel_rfl)
   refine SA TK Q (TN (WT ?_))
   exact⟨_,[0,1,2],(SJ hm),Q,(kB Q),Q⟩
  ·replace hm:=JF h10 hm
   refine TS (WT ?_)
   exact⟨_,[0,1,2],(SJ hm),Q,(kB Q),Q⟩
 ·obtain⟨c6,c7,c8⟩:=j
  refine WN [0,2,7,8,9] Q Q (TQ (RS (SA TK Q (TN (WN [0,2,8,9,41] Q Q ?_)))))
  refine TC _ Q (fun h14=>?_) (fun h14=>?_)
  ·replace hm:=JA h14 hm
   refine RS (SA TK Q ?_)
   obtain⟨r15,hr15,hm⟩:=BI hm
   refine SX Q Q (RD Q Q Q (cW hr15)) (SX Q Q (bF (f:=Expr.encR) (xs:=([r15]:List Expr)) [.tmp 43] TK Q Q aH Q (bB Q (aE (Expr.encR_eq _) aL)) Q (aI Expr.encR_cells) Q) (SA TK Q (TN (WN [6] Q Q (TR (WR ?_))))))
   obtain rfl:=OJ hm
   exact⟨_,[0,1],res Q,by decide,(kB Q),Q,Q⟩
  ·replace hm:=JB h14 hm
   refine TS (WT (WN [0,2,8,9] Q Q (TQ (RS (SA TK Q (SX Q Q (aT TK Q Q Q) (SA TK Q (TN ?_))))))))
   refine WN [0,2,8,9,47] Q Q ?_
   refine TC _ Q (fun h16=>?_) (fun h16=>?_)
   ·replace hm:=JT h16 hm
    refine RS (SA TK Q (TN (c_wk 6 [some 3] Q (WN [6] Q Q (TR (WR ?_))))))
    obtain rfl:=OJ hm
    exact⟨_,[0,1],res Q,by decide,(kB Q),Q,Q⟩
   ·replace hm:=JF h16 hm
    refine TS (WT (WN [0,2,8,9] Q Q (RS (SA TK Q ?_))))
    obtain⟨r17,hr17,hm⟩:=BI hm
    refine SX Q Q (RD Q Q Q (cW hr17)) (xB (f:=Expr.encR) 3 [.tmp 49] ([r17]:List Expr) TK Q Q Q aH Q (bB Q (aE (Expr.encR_eq _) aL)) Q (aI Expr.encR_cells) Q (SA TK Q (TN (WN [0,2,8,10] Q Q (RS (jD (f:=Expr.encR) 4 38 3 Q Q Q (TN (WN [0,2,8,10,11] Q Q ?_))))))))
    refine aK hm (fun b18=>([(11,.msl 4 3 0 b18.length)]:Fr)) (fun b18=>([(4,.flat 38 3 (b18.map Expr.encR))]:List (Nat×Blk))) [11] [10] Q (fun z19 hm=>?_) (fun b18 hm=>?_)
    ·refine RS (SA TK Q (SX Q Q (aT TK Q Q Q) (SA TK Q (TN (WN [0, 2, 10, 11, 51, 52, 53] Q Q (TB (aZ hm (fun (x23, b24) => ([(11, .msl 4 3 0 b24.length), (53, .d (.int .i64 x23))] : Fr)) (fun (x23, b24) => ([(4, .flat 38 3 (b24.map Expr.encR))] : List (Nat × Blk))) [11, 53] [0, 2, 10, 51, 52] [0, 1, 2, 3, 4] Q (kB Q) Q Q Q Q Q (fun s z25 hm hz25 => ?_))))))))
     obtain⟨x23,b24⟩:=s
     refine WN [0,2,10,11,51,52,53] Q Q (RS (SA TK Q (TN (WN [0,2,10,11,51,52,53,54] Q Q (TQ ?_)))))
     refine TC _ Q (fun h26=>?_) (fun h26=>?_)
     ·replace hm:=JT h26 hm
      refine TS (WT (WN [0,2,10,11,51,52,53] Q Q (TQ (TB (RS ?_)))))
      obtain⟨e27,he27,hm⟩:=GV hm
      refine SX Q Q (bZ TK Q Q Q Q he27) (SA TK Q (SA TK Q (TN (WN [0,2,10,11,13,51,52,53] Q Q (TG ?_)))))
      iterate 4 (refine SA TK Q ?_)
      obtain⟨r28,hr28,hm⟩:=BI hm
      refine SX Q Q (aG [0,1] ⟨Q,Q,fun _=>Q⟩ Q Q Q (by decide) Q (aF Q) Q Q (eV hr28)) ?_
      refine SX Q Q (bF (f:=Expr.encR) (xs:=([r28]:List Expr)) [.tmp 61] TK Q Q aH Q (bB Q (aE (Expr.encR_eq _) aL)) Q (aI Expr.encR_cells) Q) ?_
      obtain⟨g29,hm⟩:=GI hm
      refine cT (f:=Expr.encR) ([r28]:List Expr) TK Q Q aH Q Q Q Q Q (fun h=>absurd (show 4 < 2 from h) (by decide)) Q cR g29 Q Q ?_
      refine SA TK Q (TN (WK (WT (WN [0,2,10,11,51,52,53] Q Q (TG ?_)))))
      obtain⟨g30,hm⟩:=GI hm
      refine SX Q Q (aV Q Q Q Q g30) (SA TK Q (TN (WT ?_)))
      exact⟨_,[0,1,2,3,4],(SJ hm),Q,(kB Q),Q⟩
     ·replace hm:=JF h26 hm
      refine aJ (WX ?_)
      obtain⟨v31,hm,hz⟩:=II hm
      rw [hz25 _ hz] at hm
      refine WX (WH (WT ?_))
      exact⟨_,[0,1,2,3,4],(SJ hm),Q,(kB Q),Q⟩
    ·refine WN [10,11] Q Q ?_
     refine lC 11 4 [10] Q Q Q Q Q (by simp) Q Q ?_
     refine RS (SA TK Q (SA TK Q ?_))
     obtain⟨r32,hr32,hm⟩:=BI hm
     refine SX Q Q (RD Q Q Q (cI hr32)) (SX Q Q (bF (f:=Expr.encR) (xs:=([r32]:List Expr)) [.tmp 67] TK Q Q aH Q (bB Q (aE (Expr.encR_eq _) aL)) Q (aI Expr.encR_cells) Q) ?_)
     obtain⟨g33,hm⟩:=GI hm
     refine cT (f:=Expr.encR) ([r32]:List Expr) TK Q Q aH Q Q Q Q Q (fun h=>absurd (show 3 < 2 from h) (by decide)) Q cR g33 Q Q ?_
     refine s_frzO 69 3 [11,66,67,68] Q Q Q Q Q (by simp) Q Q ?_
     obtain⟨r34,hr34,hm⟩:=BI hm
     refine SX Q Q (RD Q Q Q (dQ hr34)) (SX Q Q (bF (f:=Expr.encR) (xs:=([r34]:List Expr)) [.tmp 70] TK Q Q aH Q (bB Q (aE (Expr.encR_eq _) aL)) Q (aI Expr.encR_cells) Q) (SA TK Q (TN (WN [6] Q Q (TR ?_)))))
     obtain rfl:=OJ hm
     exact⟨_,[0,1],res Q,by decide,(kB Q),Q,Q⟩

theorem rK {p0:Builder} {p1:Int} {r:Expr} (hm:gI p0 p1=some r):Ret Tryz.prog 36 [.box 81 [.d (.sl 14 (p0.numbering.t.routes.map Route.enc)),.d (.sl 1 (p0.numbering.t.points.map (D.int .i64))),.d (.sl 1 (p0.numbering.t.homes.map (D.int .i64))),.d (.int .i64 p0.numbering.t.sections),.d (.int .i64 p0.numbering.t.signals),.d (.int .i64 p0.numbering.inputs),.d (.sl 1 (p0.numbering.bases.map (D.int .i64))),.d (.int .i64 p0.numbering.extra),.d (.int .i64 p0.numbering.count),.msl 1 6 0 p0.rungs.length],.flat 40 6 (p0.rungs.map Rung.enc)] (fun _=>false) [.mptr 0 0 0 0,.d (.int .i64 p1)] (.d (r.enc)) [.box 81 [.d (.sl 14 (p0.numbering.t.routes.map Route.enc)),.d (.sl 1 (p0.numbering.t.points.map (D.int .i64))),.d (.sl 1 (p0.numbering.t.homes.map (D.int .i64))),.d (.int .i64 p0.numbering.t.sections),.d (.int .i64 p0.numbering.t.signals),.d (.int .i64 p0.numbering.inputs),.d (.sl 1 (p0.numbering.bases.map (D.int .i64))),.d (.int .i64 p0.numbering.extra),.d (.int .i64 p0.numbering.count),.msl 1 6 0 p0.rungs.length],.flat 40 6 (p0.rungs.map Rung.enc)]:=by
 refine cC zAA Tryz.func36 Q Tryz.ntmps36 Q Q (fun wX gX=>?_)
 unfold gI at hm
 refine WN [0,1] Q Q (RS (dA 2 Q Q aH Q (cO 2 [none,none,some 3] Q Q (TN (WN [0,1,4] Q Q (RS ?_))))))
 iterate 7 (refine SA TK Q ?_)
 obtain⟨e1,he1,hm⟩:=GV hm
 refine SX Q Q (bZ TK Q Q Q Q he1) (SA TK Q (dA 3 Q Q iH Q (cO 3 [none,none,none,some 3,some 2,some 1,none,none,some 3,some 2,some 1,some 2,some 1,some 2] Q Q (SA TK Q (TN (WN [0,1,4,5] Q Q (cE follows  ?_)))))))
 iterate 2 (refine DA [0,1,2,3] TK Q ?_)
 obtain⟨r2,hr2,hm⟩:=BI hm
 refine DX [0,1,2,3] Q Q (aG [0,1] ⟨Q,Q,fun _=>Q⟩ Q Q Q (by decide) Q (aF Q) Q Q (bY hr2)) ?_
 iterate 5 (refine DA [0,1,2,3] TK Q ?_)
 obtain⟨r3,hr3,hm⟩:=BI hm
 refine DX [0,1,2,3] Q Q (RN Q Q (SC (.d _) (SC (.d _) (SC (.d _) SN))) (aY hr3)) ?_
 obtain⟨r4,hr4,hm⟩:=BI hm
 refine DX [0,1,2,3] Q Q (RD Q Q Q (bV hr4)) ?_
 obtain⟨r5,hr5,hm⟩:=BI hm
 refine DX [0,1,2,3] Q Q (RD Q Q Q (cW hr5)) ?_
 refine DT ?_ (by kernel_rfl)
 refine xB (f:=Expr.encR) 4 [.tmp 25,.tmp 33] ([r2,r5]:List Expr) TK Q Q Q aH Q (bB Q (aE (Expr.encR_eq _) (aE (Expr.encR_eq _) aL))) Q (aI Expr.encR_cells) Q (SA TK Q (TN (WN [0,1,4,5,6] Q Q ?_)))
 refine aK hm (fun b6=>([(6,.msl 4 3 0 b6.length)]:Fr)) (fun b6=>([(4,.flat 38 3 (b6.map Expr.encR))]:List (Nat×Blk))) [6] [0,1,4,5] Q (fun z7 hm=>?_) (fun b6 hm=>?_)
 ·refine RS ?_
  iterate 4 (refine SA TK Q ?_)
  refine SX Q Q (dW [.tmp 36,.tmp 38] TK Q Q qGF Q Q Q Q Q) ?_
  obtain⟨r8,hr8,hm⟩:=BI hm
  refine SX Q Q (RN Q Q (SC (.d _) SN) (lM hr8)) (SX Q Q (aT TK Q Q Q) (SA TK Q (TN (WN [0,1,4,5,6,40,41,42] Q Q (TB (aZ hm (fun (x12,b13)=>([(6,.msl 4 3 0 b13.length),(42,.d (.int .i64 x12))]:Fr)) (fun (x12,b13)=>([(4,.flat 38 3 (b13.map Expr.encR))]:List (Nat×Blk))) [6,42] [0,1,4,5,40,41] [0,1,2,3,4] Q (kB Q) Q Q Q Q Q (fun s z14 hm hz14=>?_)))))))
  obtain⟨x12,b13⟩:=s
  refine WN [0,1,4,5,6,40,41,42] Q Q (RS (SA TK Q (TN (WN [0,1,4,5,6,40,41,42,43] Q Q (TQ ?_)))))
  refine TC _ Q (fun h15=>?_) (fun h15=>?_)
  ·replace hm:=JT h15 hm
   refine TS (WT (WN [0,1,4,5,6,40,41,42] Q Q (TQ (TB (RS ?_)))))
   obtain⟨e16,he16,hm⟩:=GV hm
   refine SX Q Q (bZ TK Q Q Q Q he16) (SA TK Q (SA TK Q (TN (WN [0,1,4,5,6,8,40,41,42] Q Q (TG ?_)))))
   iterate 6 (refine SA TK Q ?_)
   obtain⟨r17,hr17,hm⟩:=BI hm
   refine SX Q Q (RN Q Q (SC (.d _) (SC (.d _) (SC (.d _) SN))) (kO hr17)) ?_
   obtain⟨r18,hr18,hm⟩:=BI hm
   refine SX Q Q (RD Q Q Q (bV hr18)) (SX Q Q (bF (f:=Expr.encR) (xs:=([r18]:List Expr)) [.tmp 53] TK Q Q aH Q (bB Q (aE (Expr.encR_eq _) aL)) Q (aI Expr.encR_cells) Q) ?_)
   obtain⟨g19,hm⟩:=GI hm
   refine cT (f:=Expr.encR) ([r18]:List Expr) TK Q Q aH Q Q Q Q Q (fun h=>absurd (show 4 < 2 from h) (by decide)) Q cR g19 Q Q ?_
   refine SA TK Q (TN (WK (WT (WN [0,1,4,5,6,40,41,42] Q Q (TG ?_)))))
   obtain⟨g20,hm⟩:=GI hm
   refine SX Q Q (aV Q Q Q Q g20) (SA TK Q (TN (WT ?_)))
   exact⟨_,[0,1,2,3,4],(SJ hm),Q,(kB Q),Q⟩
  ·replace hm:=JF h15 hm
   refine aJ (WX ?_)
   obtain⟨v21,hm,hz⟩:=II hm
   rw [hz14 _ hz] at hm
   refine WX (WH (WT ?_))
   exact⟨_,[0,1,2,3,4],(SJ hm),Q,(kB Q),Q⟩
 ·refine WN [0,1,4,5,6] Q Q ?_
  refine aK hm (fun b22=>([(6,.msl 4 3 0 b22.length)]:Fr)) (fun b22=>([(4,.flat 38 3 (b22.map Expr.encR))]:List (Nat×Blk))) [6] [0,4,5] Q (fun z23 hm=>?_) (fun b22 hm=>?_)
  ·refine RS ?_
   iterate 6 (refine SA TK Q ?_)
   refine SX Q Q (aT TK Q Q Q) (SA TK Q (TN (WN [0,1,4,5,6,63,64] Q Q (TB (aZ hm (fun (x27,b28)=>([(6,.msl 4 3 0 b28.length),(64,.d (.int .i64 x27))]:Fr)) (fun (x27,b28)=>([(4,.flat 38 3 (b28.map Expr.encR))]:List (Nat×Blk))) [6,64] [0,1,4,5,63] [0,1,2,3,4] Q (kB Q) Q Q Q Q Q (fun s z29 hm hz29=>?_))))))
   obtain⟨x27,b28⟩:=s
   refine WN [0,1,4,5,6,63,64] Q Q (RS (SA TK Q (TN (WN [0,1,4,5,6,63,64,65] Q Q (TQ ?_)))))
   refine TC _ Q (fun h30=>?_) (fun h30=>?_)
   ·replace hm:=JT h30 hm
    refine TS (WT (WN [0,1,4,5,6,63,64] Q Q (TQ (TB (RS (SA TK Q (SA TK Q (TN (WN [0,1,4,5,6,9,63,64] Q Q ?_)))))))))
    refine RS (SA TK Q (SA TK Q (SA TK Q (TN (WN [0,1,4,5,6,9,63,64,69] Q Q ?_)))))
    refine TC _ Q (fun h31=>?_) (fun h31=>?_)
    ·replace hm:=eT h31 hm
     refine TG ?_
     iterate 4 (refine SA TK Q ?_)
     obtain⟨r32,hr32,hm⟩:=BI hm
     refine SX Q Q (aG [0,1] ⟨Q,Q,fun _=>Q⟩ Q Q Q (by decide) Q (aF Q) Q Q (sE hr32)) ?_
     obtain⟨g33,hm⟩:=GI hm
     refine cT (f:=Expr.encR) r32 TK Q Q aH Q Q Q Q Q (fun h=>absurd (show 4 < 2 from h) (by decide)) Q cR g33 Q Q ?_
     refine SA TK Q (TN (WK (WT (WN [0,1,4,5,6,63,64] Q Q (TG ?_)))))
     obtain⟨g34,hm⟩:=GI hm
     refine SX Q Q (aV Q Q Q Q g34) (SA TK Q (TN (WT ?_)))
     exact⟨_,[0,1,2,3,4],(SJ hm),Q,(kB Q),Q⟩
    ·replace hm:=eU h31 hm
     refine TS (WK (WT (WN [0,1,4,5,6,63,64] Q Q (TG ?_))))
     obtain⟨g35,hm⟩:=GI hm
     refine SX Q Q (aV Q Q Q Q g35) (SA TK Q (TN (WT ?_)))
     exact⟨_,[0,1,2,3,4],(SJ hm),Q,(kB Q),Q⟩
   ·replace hm:=JF h30 hm
    refine aJ (WX ?_)
    obtain⟨v36,hm,hz⟩:=II hm
    rw [hz29 _ hz] at hm
    refine WX (WH (WT ?_))
    exact⟨_,[0,1,2,3,4],(SJ hm),Q,(kB Q),Q⟩
  ·refine WN [0,4,5,6] Q Q ?_
   refine aK hm (fun b37=>([(6,.msl 4 3 0 b37.length)]:Fr)) (fun b37=>([(4,.flat 38 3 (b37.map Expr.encR))]:List (Nat×Blk))) [6] [4] Q (fun z38 hm=>?_) (fun b37 hm=>?_)
   ·refine RS (SA TK Q ?_)
    obtain⟨r39,hr39,hm⟩:=BI hm
    refine SX Q Q (RD Q Q Q (lE hr39)) (SX Q Q (aT TK Q Q Q) (SA TK Q (TN (WN [0,4,6,78,79,80] Q Q (TB (aZ hm (fun (x43,b44)=>([(6,.msl 4 3 0 b44.length),(80,.d (.int .i64 x43))]:Fr)) (fun (x43,b44)=>([(4,.flat 38 3 (b44.map Expr.encR))]:List (Nat×Blk))) [6,80] [0,4,78,79] [0,1,2,3,4] Q (kB Q) Q Q Q Q Q (fun s z45 hm hz45=>?_)))))))
    obtain⟨x43,b44⟩:=s
    refine WN [0,4,6,78,79,80] Q Q (RS (SA TK Q (TN (WN [0,4,6,78,79,80,81] Q Q (TQ ?_)))))
    refine TC _ Q (fun h46=>?_) (fun h46=>?_)
    ·replace hm:=JT h46 hm
     refine TS (WT (WN [0,4,6,78,79,80] Q Q (TQ (TB (RS ?_)))))
     obtain⟨e47,he47,hm⟩:=GV hm
     refine SX Q Q (bZ TK Q Q Q Q he47) (SA TK Q (dA 5 Q Q fU Q (SA TK Q (TN (WN [0,4,6,11,78,79,80] Q Q (cE follows  ?_))))))
     iterate 7 (refine DA [0,1,2,3,4,5] TK Q ?_)
     obtain⟨r48,hr48,hm⟩:=BI hm
     refine DX [0,1,2,3,4,5] Q Q (RN Q Q (SC (.d _) (SC (.d _) SN)) (lQ hr48)) ?_
     refine DT ?_ (by kernel_rfl)
     refine SA TK Q (TN (WN [0,4,6,11,12,78,79,80] Q Q (RS ?_)))
     iterate 5 (refine SA TK Q ?_)
     obtain⟨r49,hr49,hm⟩:=BI hm
     refine SX Q Q (RN Q Q (SC (.d _) (SC (.d _) SN)) (iA hr49)) ?_
     obtain⟨r50,hr50,hm⟩:=BI hm
     refine SX Q Q (RD Q Q Q (bV hr50)) (dA 6 Q Q aH Q (cO 6 [none,none,some 3] Q Q (SA TK Q (TN (WN [0,4,6,11,12,13,78,79,80] Q Q ?_)))))
     refine aK hm (fun (c51,c52,c53)=>([]:Fr)) (fun (c51,c52,c53)=>([(6,.box 38 [.d (.int .i64 c51),.d (.int .i64 c52),.d (.sl 3 (c53.map Expr.encR))])]:List (Nat×Blk))) [] [0,4,6,12,13,78,79,80] Q (fun z54 hm=>?_) (fun j hm=>?_)
     ·refine RS (SA TK Q (SA TK Q (SA TK Q (TN (WN [0,4,6,12,13,78,79,80,101] Q Q ?_)))))
      refine TC _ Q (fun h55=>?_) (fun h55=>?_)
      ·replace hm:=JT h55 hm
       refine TG (SA TK Q ?_)
       obtain⟨r56,hr56,hm⟩:=BI hm
       refine SX Q Q (RD Q Q Q (cW hr56)) (SA TK Q (TN (WT ?_)))
       exact⟨_,[0,1,2,3,4,5,6],(SJ hm),Q,(kB Q),Q⟩
      ·replace hm:=JF h55 hm
       refine TS (WT ?_)
       exact⟨_,[0,1,2,3,4,5,6],(SJ hm),Q,(kB Q),Q⟩
     ·obtain⟨c51,c52,c53⟩:=j
      refine WN [0,4,6,12,13,78,79,80] Q Q (cN follows  ?_)
      iterate 10 (refine DA [0,1,2,3,4,5,6] TK Q ?_)
      obtain⟨e57,he57,hm⟩:=GV hm
      refine DX [0,1,2,3,4,5,6] Q Q (bZ TK Q Q Q Q he57) (DA [0,1,2,3,4,5,6] TK Q ?_)
      obtain⟨r58,hr58,hm⟩:=BI hm
      refine DX [0,1,2,3,4,5,6] Q Q (aG [0,1] ⟨Q,Q,fun _=>Q⟩ Q Q Q (by decide) Q (aF Q) Q Q (cK hr58)) ?_
      refine DX [0,1,2,3,4,5,6] Q Q (bF (f:=Expr.encR) (xs:=([(⟨c51,c52,c53⟩:Expr),r58]:List Expr)) [.tmp 105,.tmp 116] TK Q Q aH Q (bB Q (aE (Expr.encR_eq _) (aE (Expr.encR_eq _) aL))) Q (aI Expr.encR_cells) Q) ?_
      obtain⟨r59,hr59,hm⟩:=BI hm
      refine DX [0,1,2,3,4,5,6] Q Q (RD Q Q Q (dQ hr59)) (DX [0,1,2,3,4,5,6] Q Q (bF (f:=Expr.encR) (xs:=([r59]:List Expr)) [.tmp 118] TK Q Q aH Q (bB Q (aE (Expr.encR_eq _) aL)) Q (aI Expr.encR_cells) Q) ?_)
      refine DT ?_ (by kernel_rfl)
      obtain⟨g60,hm⟩:=GI hm
      refine cT (f:=Expr.encR) ([r59]:List Expr) TK Q Q aH Q Q Q Q Q (fun h=>absurd (show 4 < 2 from h) (by decide)) Q cR g60 Q Q ?_
      refine SA TK Q (TN (WK (WT (WN [0,4,6,78,79,80] Q Q (TG ?_)))))
      obtain⟨g61,hm⟩:=GI hm
      refine SX Q Q (aV Q Q Q Q g61) (SA TK Q (TN (WT ?_)))
      exact⟨_,[0,1,2,3,4],(SJ hm),Q,(kB Q),Q⟩
    ·replace hm:=JF h46 hm
     refine aJ (WX ?_)
     obtain⟨v62,hm,hz⟩:=II hm
     rw [hz45 _ hz] at hm
     refine WX (WH (WT ?_))
     exact⟨_,[0,1,2,3,4],(SJ hm),Q,(kB Q),Q⟩
   ·refine WN [4,6] Q Q ?_
    refine lC 6 4 [4] Q Q Q Q Q (by simp) Q Q ?_
    refine RS (SA TK Q ?_)
    obtain⟨r63,hr63,hm⟩:=BI hm
    refine SX Q Q (RD Q Q Q (cI hr63)) (SA TK Q (TN (WN [4] Q Q (TR ?_))))
    obtain rfl:=OJ hm
    exact⟨_,[0,1],.mk _ (.cons (.agg (TK.lay Q) Q Q Q Q) .nil) Q,by decide,(kB Q),Q,Q⟩

theorem tC {p0:Builder} {p1:Int} {r:Expr} (hm:hR p0 p1=some r):Ret Tryz.prog 38 [.box 81 [.d (.sl 14 (p0.numbering.t.routes.map Route.enc)),.d (.sl 1 (p0.numbering.t.points.map (D.int .i64))),.d (.sl 1 (p0.numbering.t.homes.map (D.int .i64))),.d (.int .i64 p0.numbering.t.sections),.d (.int .i64 p0.numbering.t.signals),.d (.int .i64 p0.numbering.inputs),.d (.sl 1 (p0.numbering.bases.map (D.int .i64))),.d (.int .i64 p0.numbering.extra),.d (.int .i64 p0.numbering.count),.msl 1 6 0 p0.rungs.length],.flat 40 6 (p0.rungs.map Rung.enc)] (fun _=>false) [.mptr 0 0 0 0,.d (.int .i64 p1)] (.d (r.enc)) [.box 81 [.d (.sl 14 (p0.numbering.t.routes.map Route.enc)),.d (.sl 1 (p0.numbering.t.points.map (D.int .i64))),.d (.sl 1 (p0.numbering.t.homes.map (D.int .i64))),.d (.int .i64 p0.numbering.t.sections),.d (.int .i64 p0.numbering.t.signals),.d (.int .i64 p0.numbering.inputs),.d (.sl 1 (p0.numbering.bases.map (D.int .i64))),.d (.int .i64 p0.numbering.extra),.d (.int .i64 p0.numbering.count),.msl 1 6 0 p0.rungs.length],.flat 40 6 (p0.rungs.map Rung.enc)]:=by
 refine cC qZY Tryz.func38 Q Tryz.ntmps38 Q Q (fun wX gX=>?_)
 unfold hR at hm
 refine WN [0,1] Q Q (RS (dA 2 Q Q aH Q (cO 2 [none,none,some 3] Q Q (TN (WN [0,1,4] Q Q (RS (jD (f:=Expr.encR) 3 38 3 Q Q Q (jD (f:=Expr.encR) 4 38 3 Q Q Q ?_))))))))
 refine TN (WN [0,1,4,5,6] Q Q ?_)
 refine aK hm (fun (b1,b2)=>([(5,.msl 3 3 0 b1.length),(6,.msl 4 3 0 b2.length)]:Fr)) (fun (b1,b2)=>([(3,.flat 38 3 (b1.map Expr.encR)),(4,.flat 38 3 (b2.map Expr.encR))]:List (Nat×Blk))) [5,6] [0,1,4] Q (fun z3 hm=>?_) (fun j hm=>?_)
 ·refine RS ?_
  iterate 6 (refine SA TK Q ?_)
  refine SX Q Q (aT TK Q Q Q) (SA TK Q (TN (WN [0,1,4,5,6,16,17,18] Q Q (TB (aZ hm (fun (x8,b9,b10)=>([(5,.msl 3 3 0 b9.length),(6,.msl 4 3 0 b10.length),(18,.d (.int .i64 x8))]:Fr)) (fun (x8,b9,b10)=>([(3,.flat 38 3 (b9.map Expr.encR)),(4,.flat 38 3 (b10.map Expr.encR))]:List (Nat×Blk))) [5,6,18] [0,1,4,16,17] [0,1,2,3,4] Q (kB Q) Q Q Q Q Q (fun s z11 hm hz11=>?_))))))
  obtain⟨x8,b9,b10⟩:=s
  refine WN [0,1,4,5,6,16,17,18] Q Q (RS (SA TK Q (TN (WN [0,1,4,5,6,16,17,18,19] Q Q (TQ ?_)))))
  refine TC _ Q (fun h12=>?_) (fun h12=>?_)
  ·replace hm:=JT h12 hm
   refine TS (WT (WN [0,1,4,5,6,16,17,18] Q Q ?_))
   refine aK hm (fun (b13,b14)=>([(5,.msl 3 3 0 b13.length),(6,.msl 4 3 0 b14.length)]:Fr)) (fun (b13,b14)=>([(3,.flat 38 3 (b13.map Expr.encR)),(4,.flat 38 3 (b14.map Expr.encR))]:List (Nat×Blk))) [5,6] [0,1,4,16,17,18] Q (fun z15 hm=>?_) (fun j hm=>?_)
   ·refine TB (RS (SA TK Q ?_))
    obtain⟨e16,he16,hm⟩:=GV hm
    refine SX Q Q (bZ TK Q Q Q Q he16) (SA TK Q (dA 5 Q Q iH Q (cO 5 [none,none,none,some 3,some 2,some 1,none,none,some 3,some 2,some 1,some 2,some 1,some 2] Q Q (SA TK Q (SA TK Q (TN (WN [0,1,4,5,6,7,8,16,17,18] Q Q (RS (SA TK Q ?_)))))))))
    obtain⟨r17,hr17,hm⟩:=BI hm
    refine SX Q Q (RD Q Q Q (lE hr17)) (SX Q Q (aT TK Q Q Q) (SA TK Q (TN (WN [0,1,4,5,6,7,16,17,18,24,25,26] Q Q (TB (aZ hm (fun (x22,b23,b24)=>([(5,.msl 3 3 0 b23.length),(6,.msl 4 3 0 b24.length),(26,.d (.int .i64 x22))]:Fr)) (fun (x22,b23,b24)=>([(3,.flat 38 3 (b23.map Expr.encR)),(4,.flat 38 3 (b24.map Expr.encR))]:List (Nat×Blk))) [5,6,26] [0,1,4,7,16,17,18,24,25] [0,1,2,3,4] Q (kB Q) Q Q Q Q Q (fun s z25 hm hz25=>?_)))))))
    obtain⟨x22,b23,b24⟩:=s
    refine WN [0,1,4,5,6,7,16,17,18,24,25,26] Q Q (RS (SA TK Q (TN (WN [0,1,4,5,6,7,16,17,18,24,25,26,27] Q Q (TQ ?_)))))
    refine TC _ Q (fun h26=>?_) (fun h26=>?_)
    ·replace hm:=JT h26 hm
     refine TS (WT (WN [0,1,4,5,6,7,16,17,18,24,25,26] Q Q (TQ (TB (RS ?_)))))
     obtain⟨e27,he27,hm⟩:=GV hm
     refine SX Q Q (bZ TK Q Q Q Q he27) (SA TK Q (dA 5 Q Q fU Q (SA TK Q (TN (WN [0,1,4,5,6,7,10,16,17,18,24,25,26] Q Q (TQ (cE follows  ?_)))))))
     iterate 9 (refine DA [0,1,2,3,4,5] TK Q ?_)
     obtain⟨e28,he28,hm⟩:=GV hm
     refine DX [0,1,2,3,4,5] Q Q (bZ TK Q Q Q Q he28) ?_
     iterate 2 (refine DA [0,1,2,3,4,5] TK Q ?_)
     refine DT ?_ (by kernel_rfl)
     refine TN (WN [0,1,4,5,6,7,10,16,17,18,24,25,26,41] Q Q ?_)
     refine TC _ Q (fun h29=>?_) (fun h29=>?_)
     ·replace hm:=eT h29 hm
      refine aJ (WX (WH (WT (WN [0,1,4,5,6,7,16,17,18,24,25,26] Q Q (TG ?_)))))
      obtain⟨g30,hm⟩:=GI hm
      refine SX Q Q (aV Q Q Q Q g30) (SA TK Q (TN (WT ?_)))
      exact⟨_,[0,1,2,3,4],(SJ hm),Q,(kB Q),Q⟩
     ·replace hm:=eU h29 hm
      refine TS (WT (WN [0,1,4,5,6,7,10,16,17,18,24,25,26] Q Q (RS (SA TK Q (SA TK Q (SA TK Q (TN (WN [0,1,4,5,6,7,16,17,18,24,25,26,44] Q Q ?_))))))))
      refine TC _ Q (fun h31=>?_) (fun h31=>?_)
      ·replace hm:=JT h31 hm
       refine TG ?_
       iterate 6 (refine SA TK Q ?_)
       obtain⟨r32,hr32,hm⟩:=BI hm
       refine SX Q Q (RN Q Q (SC (.d _) (SC (.d _) (SC (.d _) SN))) (aY hr32)) ?_
       obtain⟨r33,hr33,hm⟩:=BI hm
       refine SX Q Q (RD Q Q Q (bV hr33)) (SX Q Q (bF (f:=Expr.encR) (xs:=([r33]:List Expr)) [.tmp 52] TK Q Q aH Q (bB Q (aE (Expr.encR_eq _) aL)) Q (aI Expr.encR_cells) Q) ?_)
       obtain⟨g34,hm⟩:=GI hm
       refine cT (f:=Expr.encR) ([r33]:List Expr) TK Q Q aH Q Q Q Q Q (fun h=>absurd (show 4 < 2 from h) (by decide)) Q cR g34 Q Q ?_
       refine SA TK Q (TN (WK (WT (WN [0,1,4,5,6,7,16,17,18,24,25,26] Q Q (TG ?_)))))
       obtain⟨g35,hm⟩:=GI hm
       refine SX Q Q (aV Q Q Q Q g35) (SA TK Q (TN (WT ?_)))
       exact⟨_,[0,1,2,3,4],(SJ hm),Q,(kB Q),Q⟩
      ·replace hm:=JF h31 hm
       refine TG ?_
       iterate 6 (refine SA TK Q ?_)
       obtain⟨r36,hr36,hm⟩:=BI hm
       refine SX Q Q (RN Q Q (SC (.d _) (SC (.d _) (SC (.d _) SN))) (aY hr36)) ?_
       obtain⟨r37,hr37,hm⟩:=BI hm
       refine SX Q Q (RD Q Q Q (bV hr37)) (SX Q Q (bF (f:=Expr.encR) (xs:=([r37]:List Expr)) [.tmp 62] TK Q Q aH Q (bB Q (aE (Expr.encR_eq _) aL)) Q (aI Expr.encR_cells) Q) ?_)
       obtain⟨g38,hm⟩:=GI hm
       refine cT (f:=Expr.encR) ([r37]:List Expr) TK Q Q aH Q Q Q Q Q (fun h=>absurd (show 3 < 2 from h) (by decide)) Q cR g38 Q Q ?_
       refine SA TK Q (TN (WK (WT (WN [0,1,4,5,6,7,16,17,18,24,25,26] Q Q (TG ?_)))))
       obtain⟨g39,hm⟩:=GI hm
       refine SX Q Q (aV Q Q Q Q g39) (SA TK Q (TN (WT ?_)))
       exact⟨_,[0,1,2,3,4],(SJ hm),Q,(kB Q),Q⟩
    ·replace hm:=JF h26 hm
     refine aJ (WX ?_)
     obtain⟨v40,hm,hz⟩:=II hm
     rw [hz25 _ hz] at hm
     refine WX (WH (WK (WT ?_)))
     exact⟨_,[0,1,2,3,4],(SJ hm),Q,(kB Q),Q⟩
   ·obtain⟨b13,b14⟩:=j
    refine WN [0,1,4,5,6,16,17,18] Q Q (TG ?_)
    obtain⟨g41,hm⟩:=GI hm
    refine SX Q Q (aV Q Q Q Q g41) (SA TK Q (TN (WT ?_)))
    exact⟨_,[0,1,2,3,4],(SJ hm),Q,(kB Q),Q⟩
  ·replace hm:=JF h12 hm
   refine aJ (WX ?_)
   obtain⟨v42,hm,hz⟩:=II hm
   rw [hz11 _ hz] at hm
   refine WX (WH (WT ?_))
   exact⟨_,[0,1,2,3,4],(SJ hm),Q,(kB Q),Q⟩
 ·obtain⟨b1,b2⟩:=j
  refine WN [0,1,4,5,6] Q Q ?_
  refine lC 6 4 [0,1,4,5] Q Q Q Q Q (by simp) Q Q ?_
  refine lC 5 3 [0,1,4,6] Q Q Q Q Q (by simp) Q Q ?_
  refine cE follows  (DA [0,1,2,3,4] TK Q ?_)
  obtain⟨r43,hr43,hm⟩:=BI hm
  refine DX [0,1,2,3,4] Q Q (RD Q Q Q (dQ hr43)) ?_
  iterate 5 (refine DA [0,1,2,3,4] TK Q ?_)
  obtain⟨r44,hr44,hm⟩:=BI hm
  refine DX [0,1,2,3,4] Q Q (RN Q Q (SC (.d _) (SC (.d _) SN)) (iA hr44)) ?_
  obtain⟨r45,hr45,hm⟩:=BI hm
  refine DX [0,1,2,3,4] Q Q (RD Q Q Q (bV hr45)) (DA [0,1,2,3,4] TK Q ?_)
  obtain⟨r46,hr46,hm⟩:=BI hm
  refine DX [0,1,2,3,4] Q Q (RD Q Q Q (dQ hr46)) ?_
  obtain⟨r47,hr47,hm⟩:=BI hm
  refine DX [0,1,2,3,4] Q Q (RD Q Q Q (cW hr47)) (DX [0,1,2,3,4] Q Q (bF (f:=Expr.encR) (xs:=([r45,r47]:List Expr)) [.tmp 75,.tmp 78] TK Q Q aH Q (bB Q (aE (Expr.encR_eq _) (aE (Expr.encR_eq _) aL))) Q (aI Expr.encR_cells) Q) ?_)
  obtain⟨r48,hr48,hm⟩:=BI hm
  refine DX [0,1,2,3,4] Q Q (RD Q Q Q (cI hr48)) (DX [0,1,2,3,4] Q Q (bF (f:=Expr.encR) (xs:=([r43,r48]:List Expr)) [.tmp 68,.tmp 80] TK Q Q aH Q (bB Q (aE (Expr.encR_eq _) (aE (Expr.encR_eq _) aL))) Q (aI Expr.encR_cells) Q) ?_)
  obtain⟨r49,hr49,hm⟩:=BI hm
  refine DX [0,1,2,3,4] Q Q (RD Q Q Q (dQ hr49)) ?_
  refine DT ?_ (by kernel_rfl)
  refine SA TK Q (TN (WN [4] Q Q (TR ?_)))
  obtain rfl:=OJ hm
  exact⟨_,[0,1],.mk _ (.cons (.agg (TK.lay Q) Q Q Q Q) .nil) Q,by decide,(kB Q),Q,Q⟩

theorem qY {p0:Table} {r0:Program} {r1:Int} (hm:jG p0=some (r0,r1)):RetT Tryz.prog 11 [p0.enc] [r0.enc,.int .i64 r1]:=by
 refine .of (mv:=fun _=>false) (pH zAQ Tryz.func11 Q Tryz.ntmps11 Q Q (fun wX gX=>?_))
 unfold jG at hm
 refine WN [0] Q Q (RS (eR 0 Q Q Q (dA 1 Q Q rA Q (cO 1 [some 1,none,some 6] Q Q (SA TK Q (TN (WN [1,2] Q Q (RS ?_))))))))
 refine SA TK Q ?_
 obtain⟨r1,hr1,hm⟩:=BI hm
 obtain⟨r2,r3⟩:=r1
 refine SX Q Q (sI Q Q Q (nR hr1)) (SA TK Q (SA TK Q (SA TK Q (dA 2 Q Q tX Q (cO 2 [some 14,some 1,some 1,none,none,none,some 1,none,none] Q Q (SA TK Q (SA TK Q (TN (WN [1,2,4,5] Q Q (TQ (RS ?_)))))))))))
 refine SA TK Q (SA TK Q (TN (WN [1,2,4,5,19] Q Q ?_)))
 refine TC _ Q (fun h4=>?_) (fun h4=>?_)
 ·replace hm:=eT h4 hm
  refine RS (SX Q Q (dJ Q qJB rA Q Q Q Q) (qGP 20 [some 1,none,some 6] Q (SA TK Q (SA TK Q (SA TK Q (TN (WN [2,3] Q Q (TR (WR ?_)))))))))
  obtain⟨rfl,rfl⟩:=Prod.mk.inj (Option.some.inj hm)
  exact⟨_,.mk _ (.cons (.agg (TK.lay Q) Q Q Q Q) (.cons (.tmp 3) .nil)) Q,(.cons (.d _) (.refl _) (.cons (.d _) (.refl _) .nil))⟩
 ·replace hm:=eU h4 hm
  refine TS (WT (WN [1,2,4] Q Q (RS (SA TK Q (SX Q Q (jV Q plc81 qQQ Q Q Q Q) (dA 3 Q Q qQQ Q (jR (f:=Rung.enc) 3 9 4 40 6 Q Q Q (cO 3 [some 14,some 1,some 1,none,none,none,some 1,none,none,none] Q Q ?_))))))))
  refine SA TK Q (jR (f:=Rung.enc) 3 9 5 40 6 Q Q Q (TN (WN [1,2,4,6] Q Q ?_)))
  refine aK hm (fun b5=>([]:Fr)) (fun b5=>([(3,.box 81 [.d (.sl 14 (r2.t.routes.map Route.enc)),.d (.sl 1 (r2.t.points.map (D.int .i64))),.d (.sl 1 (r2.t.homes.map (D.int .i64))),.d (.int .i64 r2.t.sections),.d (.int .i64 r2.t.signals),.d (.int .i64 r2.inputs),.d (.sl 1 (r2.bases.map (D.int .i64))),.d (.int .i64 r2.extra),.d (.int .i64 r2.count),.msl 5 6 0 b5.length]),(5,.flat 40 6 (b5.map Rung.enc))]:List (Nat×Blk))) [] [1,2,4,6] Q (fun z6 hm=>?_) (fun b5 hm=>?_)
  ·refine RS (SA TK Q (SA TK Q (SX Q Q (aT TK Q Q Q) (SA TK Q (TN (WN [1, 2, 4, 6, 26, 27] Q Q (TB (aZ hm (fun (x10, b11) => ([(27, .d (.int .i64 x10))] : Fr)) (fun (x10, b11) => ([(3, .box 81 [.d (.sl 14 (r2.t.routes.map Route.enc)), .d (.sl 1 (r2.t.points.map (D.int .i64))), .d (.sl 1 (r2.t.homes.map (D.int .i64))), .d (.int .i64 r2.t.sections), .d (.int .i64 r2.t.signals), .d (.int .i64 r2.inputs), .d (.sl 1 (r2.bases.map (D.int .i64))), .d (.int .i64 r2.extra), .d (.int .i64 r2.count), .msl 5 6 0 b11.length]), (5, .flat 40 6 (b11.map Rung.enc))] : List (Nat × Blk))) [27] [1, 2, 4, 6, 26] [0, 1, 2, 3, 4, 5] Q k0 Q Q Q Q Q (fun s z12 hm hz12 => ?_)))))))))
   obtain⟨x10,b11⟩:=s
   refine WN [1,2,4,6,26,27] Q Q (RS (SA TK Q (TN (WN [1,2,4,6,26,27,28] Q Q (TQ ?_)))))
   refine TC _ Q (fun h13=>?_) (fun h13=>?_)
   ·replace hm:=JT h13 hm
    refine TS (WT (WN [1,2,4,6,26,27] Q Q (TQ (TB (RS (SA TK Q (SA TK Q (TN (WN [1,2,4,6,7,26,27] Q Q ?_)))))))))
    refine TG (SA TK Q ?_)
    obtain⟨r14,hr14,hm⟩:=BI hm
    refine dE [3,5] (fun j=>Nat.beq j 1) Q Q Q (by decide) Q Q Q Q (rI hr14) Q Q Q ?_
    refine TN (WK (WT (WN [1,2,4,6,26,27] Q Q (TG ?_))))
    obtain⟨g15,hm⟩:=GI hm
    refine SX Q Q (aV Q Q Q Q g15) (SA TK Q (TN (WT ?_)))
    exact⟨_,[0,1,2,3,4,5],(SJ hm),Q,k0,Q⟩
   ·replace hm:=JF h13 hm
    refine aJ (WX ?_)
    obtain⟨v16,hm,hz⟩:=II hm
    rw [hz12 _ hz] at hm
    refine WX (WH (WT ?_))
    exact⟨_,[0,1,2,3,4,5],(SJ hm),Q,k0,Q⟩
  ·refine WN [1,2,4,6] Q Q ?_
   refine aK hm (fun b17=>([]:Fr)) (fun b17=>([(3,.box 81 [.d (.sl 14 (r2.t.routes.map Route.enc)),.d (.sl 1 (r2.t.points.map (D.int .i64))),.d (.sl 1 (r2.t.homes.map (D.int .i64))),.d (.int .i64 r2.t.sections),.d (.int .i64 r2.t.signals),.d (.int .i64 r2.inputs),.d (.sl 1 (r2.bases.map (D.int .i64))),.d (.int .i64 r2.extra),.d (.int .i64 r2.count),.msl 5 6 0 b17.length]),(5,.flat 40 6 (b17.map Rung.enc))]:List (Nat×Blk))) [] [1,2,4,6] Q (fun z18 hm=>?_) (fun b17 hm=>?_)
   ·refine RS (SA TK Q (SA TK Q (SX Q Q (aT TK Q Q Q) (SA TK Q (TN (WN [1, 2, 4, 6, 35, 36] Q Q (TB (aZ hm (fun (x22, b23) => ([(36, .d (.int .i64 x22))] : Fr)) (fun (x22, b23) => ([(3, .box 81 [.d (.sl 14 (r2.t.routes.map Route.enc)), .d (.sl 1 (r2.t.points.map (D.int .i64))), .d (.sl 1 (r2.t.homes.map (D.int .i64))), .d (.int .i64 r2.t.sections), .d (.int .i64 r2.t.signals), .d (.int .i64 r2.inputs), .d (.sl 1 (r2.bases.map (D.int .i64))), .d (.int .i64 r2.extra), .d (.int .i64 r2.count), .msl 5 6 0 b23.length]), (5, .flat 40 6 (b23.map Rung.enc))] : List (Nat × Blk))) [36] [1, 2, 4, 6, 35] [0, 1, 2, 3, 4, 5] Q k0 Q Q Q Q Q (fun s z24 hm hz24 => ?_)))))))))
    obtain⟨x22,b23⟩:=s
    refine WN [1,2,4,6,35,36] Q Q (RS (SA TK Q (TN (WN [1,2,4,6,35,36,37] Q Q (TQ ?_)))))
    refine TC _ Q (fun h25=>?_) (fun h25=>?_)
    ·replace hm:=JT h25 hm
     refine TS (WT (WN [1,2,4,6,35,36] Q Q (TQ (TB (RS (SA TK Q (SA TK Q (TN (WN [1,2,4,6,8,35,36] Q Q ?_)))))))))
     refine TG (SA TK Q ?_)
     obtain⟨r26,hr26,hm⟩:=BI hm
     refine dE [3,5] (fun j=>Nat.beq j 1) Q Q Q (by decide) Q Q Q Q (qE hr26) Q Q Q ?_
     refine TN (WK (WT (WN [1,2,4,6,35,36] Q Q (TG ?_))))
     obtain⟨g27,hm⟩:=GI hm
     refine SX Q Q (aV Q Q Q Q g27) (SA TK Q (TN (WT ?_)))
     exact⟨_,[0,1,2,3,4,5],(SJ hm),Q,k0,Q⟩
    ·replace hm:=JF h25 hm
     refine aJ (WX ?_)
     obtain⟨v28,hm,hz⟩:=II hm
     rw [hz24 _ hz] at hm
     refine WX (WH (WT ?_))
     exact⟨_,[0,1,2,3,4,5],(SJ hm),Q,k0,Q⟩
   ·refine WN [1,2,4,6] Q Q ?_
    refine aK hm (fun b29=>([]:Fr)) (fun b29=>([(3,.box 81 [.d (.sl 14 (r2.t.routes.map Route.enc)),.d (.sl 1 (r2.t.points.map (D.int .i64))),.d (.sl 1 (r2.t.homes.map (D.int .i64))),.d (.int .i64 r2.t.sections),.d (.int .i64 r2.t.signals),.d (.int .i64 r2.inputs),.d (.sl 1 (r2.bases.map (D.int .i64))),.d (.int .i64 r2.extra),.d (.int .i64 r2.count),.msl 5 6 0 b29.length]),(5,.flat 40 6 (b29.map Rung.enc))]:List (Nat×Blk))) [] [1,2,4,6] Q (fun z30 hm=>?_) (fun b29 hm=>?_)
    ·refine RS (SA TK Q (SA TK Q (SX Q Q (aT TK Q Q Q) (SA TK Q (TN (WN [1, 2, 4, 6, 44, 45] Q Q (TB (aZ hm (fun (x34, b35) => ([(45, .d (.int .i64 x34))] : Fr)) (fun (x34, b35) => ([(3, .box 81 [.d (.sl 14 (r2.t.routes.map Route.enc)), .d (.sl 1 (r2.t.points.map (D.int .i64))), .d (.sl 1 (r2.t.homes.map (D.int .i64))), .d (.int .i64 r2.t.sections), .d (.int .i64 r2.t.signals), .d (.int .i64 r2.inputs), .d (.sl 1 (r2.bases.map (D.int .i64))), .d (.int .i64 r2.extra), .d (.int .i64 r2.count), .msl 5 6 0 b35.length]), (5, .flat 40 6 (b35.map Rung.enc))] : List (Nat × Blk))) [45] [1, 2, 4, 6, 44] [0, 1, 2, 3, 4, 5] Q k0 Q Q Q Q Q (fun s z36 hm hz36 => ?_)))))))))
     obtain⟨x34,b35⟩:=s
     refine WN [1,2,4,6,44,45] Q Q (RS (SA TK Q (TN (WN [1,2,4,6,44,45,46] Q Q (TQ ?_)))))
     refine TC _ Q (fun h37=>?_) (fun h37=>?_)
     ·replace hm:=JT h37 hm
      refine TS (WT (WN [1,2,4,6,44,45] Q Q (TQ (TB (RS (SA TK Q (SA TK Q (TN (WN [1,2,4,6,9,44,45] Q Q ?_)))))))))
      refine TG (SA TK Q ?_)
      obtain⟨r38,hr38,hm⟩:=BI hm
      refine dE [3,5] (fun j=>Nat.beq j 1) Q Q Q (by decide) Q Q Q Q (sD hr38) Q Q Q ?_
      refine TN (WK (WT (WN [1,2,4,6,44,45] Q Q (TG ?_))))
      obtain⟨g39,hm⟩:=GI hm
      refine SX Q Q (aV Q Q Q Q g39) (SA TK Q (TN (WT ?_)))
      exact⟨_,[0,1,2,3,4,5],(SJ hm),Q,k0,Q⟩
     ·replace hm:=JF h37 hm
      refine aJ (WX ?_)
      obtain⟨v40,hm,hz⟩:=II hm
      rw [hz36 _ hz] at hm
      refine WX (WH (WT ?_))
      exact⟨_,[0,1,2,3,4,5],(SJ hm),Q,k0,Q⟩
    ·refine WN [1,2,4,6] Q Q ?_
     refine aK hm (fun b41=>([]:Fr)) (fun b41=>([(3,.box 81 [.d (.sl 14 (r2.t.routes.map Route.enc)),.d (.sl 1 (r2.t.points.map (D.int .i64))),.d (.sl 1 (r2.t.homes.map (D.int .i64))),.d (.int .i64 r2.t.sections),.d (.int .i64 r2.t.signals),.d (.int .i64 r2.inputs),.d (.sl 1 (r2.bases.map (D.int .i64))),.d (.int .i64 r2.extra),.d (.int .i64 r2.count),.msl 5 6 0 b41.length]),(5,.flat 40 6 (b41.map Rung.enc))]:List (Nat×Blk))) [] [1,2,4,6] Q (fun z42 hm=>?_) (fun b41 hm=>?_)
     ·refine RS (SA TK Q (SA TK Q (SX Q Q (aT TK Q Q Q) (SA TK Q (TN (WN [1, 2, 4, 6, 53, 54] Q Q (TB (aZ hm (fun (x46, b47) => ([(54, .d (.int .i64 x46))] : Fr)) (fun (x46, b47) => ([(3, .box 81 [.d (.sl 14 (r2.t.routes.map Route.enc)), .d (.sl 1 (r2.t.points.map (D.int .i64))), .d (.sl 1 (r2.t.homes.map (D.int .i64))), .d (.int .i64 r2.t.sections), .d (.int .i64 r2.t.signals), .d (.int .i64 r2.inputs), .d (.sl 1 (r2.bases.map (D.int .i64))), .d (.int .i64 r2.extra), .d (.int .i64 r2.count), .msl 5 6 0 b47.length]), (5, .flat 40 6 (b47.map Rung.enc))] : List (Nat × Blk))) [54] [1, 2, 4, 6, 53] [0, 1, 2, 3, 4, 5] Q k0 Q Q Q Q Q (fun s z48 hm hz48 => ?_)))))))))
      obtain⟨x46,b47⟩:=s
      refine WN [1,2,4,6,53,54] Q Q (RS (SA TK Q (TN (WN [1,2,4,6,53,54,55] Q Q (TQ ?_)))))
      refine TC _ Q (fun h49=>?_) (fun h49=>?_)
      ·replace hm:=JT h49 hm
       refine TS (WT (WN [1,2,4,6,53,54] Q Q (TQ (TB (RS (SA TK Q (SA TK Q (TN (WN [1,2,4,6,10,53,54] Q Q ?_)))))))))
       refine TG (SA TK Q (SA TK Q (SA TK Q ?_)))
       obtain⟨r50,hr50,hm⟩:=BI hm
       refine SX Q Q (RN Q Q (SC (.d _) (SC (.d _) (SC (.d _) SN))) (aY hr50)) (SA TK Q ?_)
       obtain⟨r51,hr51,hm⟩:=BI hm
       refine SX Q Q (aG [3,5] ⟨Q,Q,fun _=>Q⟩ Q Q Q (by decide) Q (aF Q) Q Q (rK hr51)) ?_
       obtain⟨r52,hr52,hm⟩:=BI hm
       refine dE [3,5] (fun j=>Nat.beq j 1) Q Q Q (by decide) Q Q Q Q (cY hr52) Q Q Q ?_
       refine TN (WK (WT (WN [1,2,4,6,53,54] Q Q (TG ?_))))
       obtain⟨g53,hm⟩:=GI hm
       refine SX Q Q (aV Q Q Q Q g53) (SA TK Q (TN (WT ?_)))
       exact⟨_,[0,1,2,3,4,5],(SJ hm),Q,k0,Q⟩
      ·replace hm:=JF h49 hm
       refine aJ (WX ?_)
       obtain⟨v54,hm,hz⟩:=II hm
       rw [hz48 _ hz] at hm
       refine WX (WH (WT ?_))
       exact⟨_,[0,1,2,3,4,5],(SJ hm),Q,k0,Q⟩
     ·refine WN [1,2,4,6] Q Q ?_
      refine aK hm (fun b55=>([]:Fr)) (fun b55=>([(3,.box 81 [.d (.sl 14 (r2.t.routes.map Route.enc)),.d (.sl 1 (r2.t.points.map (D.int .i64))),.d (.sl 1 (r2.t.homes.map (D.int .i64))),.d (.int .i64 r2.t.sections),.d (.int .i64 r2.t.signals),.d (.int .i64 r2.inputs),.d (.sl 1 (r2.bases.map (D.int .i64))),.d (.int .i64 r2.extra),.d (.int .i64 r2.count),.msl 5 6 0 b55.length]),(5,.flat 40 6 (b55.map Rung.enc))]:List (Nat×Blk))) [] [1,2,4,6] Q (fun z56 hm=>?_) (fun b55 hm=>?_)
      ·refine RS (SA TK Q (SA TK Q (SX Q Q (aT TK Q Q Q) (SA TK Q (TN (WN [1, 2, 4, 6, 67, 68] Q Q (TB (aZ hm (fun (x60, b61) => ([(68, .d (.int .i64 x60))] : Fr)) (fun (x60, b61) => ([(3, .box 81 [.d (.sl 14 (r2.t.routes.map Route.enc)), .d (.sl 1 (r2.t.points.map (D.int .i64))), .d (.sl 1 (r2.t.homes.map (D.int .i64))), .d (.int .i64 r2.t.sections), .d (.int .i64 r2.t.signals), .d (.int .i64 r2.inputs), .d (.sl 1 (r2.bases.map (D.int .i64))), .d (.int .i64 r2.extra), .d (.int .i64 r2.count), .msl 5 6 0 b61.length]), (5, .flat 40 6 (b61.map Rung.enc))] : List (Nat × Blk))) [68] [1, 2, 4, 6, 67] [0, 1, 2, 3, 4, 5] Q k0 Q Q Q Q Q (fun s z62 hm hz62 => ?_)))))))))
       obtain⟨x60,b61⟩:=s
       refine WN [1,2,4,6,67,68] Q Q (RS (SA TK Q (TN (WN [1,2,4,6,67,68,69] Q Q (TQ ?_)))))
       refine TC _ Q (fun h63=>?_) (fun h63=>?_)
       ·replace hm:=JT h63 hm
        refine TS (WT (WN [1,2,4,6,67,68] Q Q (TQ (TB (RS (SA TK Q (SA TK Q (TN (WN [1,2,4,6,11,67,68] Q Q ?_)))))))))
        refine TG (SA TK Q (SA TK Q (SA TK Q ?_)))
        obtain⟨r64,hr64,hm⟩:=BI hm
        refine SX Q Q (RN Q Q (SC (.d _) (SC (.d _) SN)) (iA hr64)) (SA TK Q ?_)
        obtain⟨r65,hr65,hm⟩:=BI hm
        refine SX Q Q (aG [3,5] ⟨Q,Q,fun _=>Q⟩ Q Q Q (by decide) Q (aF Q) Q Q (tC hr65)) ?_
        obtain⟨r66,hr66,hm⟩:=BI hm
        refine dE [3,5] (fun j=>Nat.beq j 1) Q Q Q (by decide) Q Q Q Q (cY hr66) Q Q Q ?_
        refine TN (WK (WT (WN [1,2,4,6,67,68] Q Q (TG ?_))))
        obtain⟨g67,hm⟩:=GI hm
        refine SX Q Q (aV Q Q Q Q g67) (SA TK Q (TN (WT ?_)))
        exact⟨_,[0,1,2,3,4,5],(SJ hm),Q,k0,Q⟩
       ·replace hm:=JF h63 hm
        refine aJ (WX ?_)
        obtain⟨v68,hm,hz⟩:=II hm
        rw [hz62 _ hz] at hm
        refine WX (WH (WT ?_))
        exact⟨_,[0,1,2,3,4,5],(SJ hm),Q,k0,Q⟩
      ·refine WN [1,2,4,6] Q Q ?_
       refine aK hm (fun b69=>([]:Fr)) (fun b69=>([(3,.box 81 [.d (.sl 14 (r2.t.routes.map Route.enc)),.d (.sl 1 (r2.t.points.map (D.int .i64))),.d (.sl 1 (r2.t.homes.map (D.int .i64))),.d (.int .i64 r2.t.sections),.d (.int .i64 r2.t.signals),.d (.int .i64 r2.inputs),.d (.sl 1 (r2.bases.map (D.int .i64))),.d (.int .i64 r2.extra),.d (.int .i64 r2.count),.msl 5 6 0 b69.length]),(5,.flat 40 6 (b69.map Rung.enc))]:List (Nat×Blk))) [] [2,4,6] Q (fun z70 hm=>?_) (fun b69 hm=>?_)
       ·refine RS (SA TK Q (SA TK Q (SX Q Q (aT TK Q Q Q) (SA TK Q (TN (WN [2, 4, 6, 81, 82] Q Q (TB (aZ hm (fun (x74, b75) => ([(82, .d (.int .i64 x74))] : Fr)) (fun (x74, b75) => ([(3, .box 81 [.d (.sl 14 (r2.t.routes.map Route.enc)), .d (.sl 1 (r2.t.points.map (D.int .i64))), .d (.sl 1 (r2.t.homes.map (D.int .i64))), .d (.int .i64 r2.t.sections), .d (.int .i64 r2.t.signals), .d (.int .i64 r2.inputs), .d (.sl 1 (r2.bases.map (D.int .i64))), .d (.int .i64 r2.extra), .d (.int .i64 r2.count), .msl 5 6 0 b75.length]), (5, .flat 40 6 (b75.map Rung.enc))] : List (Nat × Blk))) [82] [2, 4, 6, 81] [0, 1, 2, 3, 4, 5] Q k0 Q Q Q Q Q (fun s z76 hm hz76 => ?_)))))))))
        obtain⟨x74,b75⟩:=s
        refine WN [2,4,6,81,82] Q Q (RS (SA TK Q (TN (WN [2,4,6,81,82,83] Q Q (TQ ?_)))))
        refine TC _ Q (fun h77=>?_) (fun h77=>?_)
        ·replace hm:=JT h77 hm
         refine TS (WT (WN [2,4,6,81,82] Q Q (TQ (TB (RS (SA TK Q (SA TK Q (TN (WN [2,4,6,12,81,82] Q Q ?_)))))))))
         refine cN follows  ?_
         iterate 3 (refine DA [0,1,2,3,4,5] TK Q ?_)
         obtain⟨r78,hr78,hm⟩:=BI hm
         refine DX [0,1,2,3,4,5] Q Q (RN Q Q (SC (.d _) (SC (.d _) (SC (.d _) SN))) (cH hr78)) ?_
         iterate 3 (refine DA [0,1,2,3,4,5] TK Q ?_)
         obtain⟨r79,hr79,hm⟩:=BI hm
         refine DX [0,1,2,3,4,5] Q Q (RN Q Q (SC (.d _) (SC (.d _) (SC (.d _) SN))) (aY hr79)) ?_
         obtain⟨r80,hr80,hm⟩:=BI hm
         refine DX [0,1,2,3,4,5] Q Q (RD Q Q Q (bV hr80)) ?_
         iterate 3 (refine DA [0,1,2,3,4,5] TK Q ?_)
         obtain⟨r81,hr81,hm⟩:=BI hm
         refine DX [0,1,2,3,4,5] Q Q (RN Q Q (SC (.d _) (SC (.d _) (SC (.d _) SN))) (aY hr81)) ?_
         obtain⟨r82,hr82,hm⟩:=BI hm
         refine DX [0,1,2,3,4,5] Q Q (RD Q Q Q (bV hr82)) (DX [0,1,2,3,4,5] Q Q (bF (f:=Expr.encR) (xs:=([r80,r82]:List Expr)) [.tmp 93,.tmp 98] TK Q Q aH Q (bB Q (aE (Expr.encR_eq _) (aE (Expr.encR_eq _) aL))) Q (aI Expr.encR_cells) Q) ?_)
         obtain⟨r83,hr83,hm⟩:=BI hm
         refine DX [0,1,2,3,4,5] Q Q (RD Q Q Q (dQ hr83)) ?_
         refine DT ?_ (by kernel_rfl)
         obtain⟨r84,hr84,hm⟩:=BI hm
         refine dE [3,5] (fun j=>Nat.beq j 1) Q Q Q (by decide) Q Q Q Q (cY hr84) Q Q Q ?_
         refine TN (WK (WT (WN [2,4,6,81,82] Q Q (TG ?_))))
         obtain⟨g85,hm⟩:=GI hm
         refine SX Q Q (aV Q Q Q Q g85) (SA TK Q (TN (WT ?_)))
         exact⟨_,[0,1,2,3,4,5],(SJ hm),Q,k0,Q⟩
        ·replace hm:=JF h77 hm
         refine aJ (WX ?_)
         obtain⟨v86,hm,hz⟩:=II hm
         rw [hz76 _ hz] at hm
         refine WX (WH (WT ?_))
         exact⟨_,[0,1,2,3,4,5],(SJ hm),Q,k0,Q⟩
       ·refine WN [2,4,6] Q Q (cE follows  (DA [0,1,2,3,4,5] TK Q ?_))
        obtain⟨r87,hr87,hm⟩:=BI hm
        refine DX [0,1,2,3,4,5] Q Q (RD Q Q Q (qM hr87)) ?_
        iterate 4 (refine DA [0,1,2,3,4,5] TK Q ?_)
        refine DX [0,1,2,3,4,5] Q Q (jV Q qJB rA Q Q Q Q) ?_
        refine DT ?_ (by kernel_rfl)
        refine SA TK Q (SA TK Q (TN (WN [2,3] Q Q (TR ?_))))
        obtain⟨rfl,rfl⟩:=Prod.mk.inj (Option.some.inj hm)
        exact⟨_,.mk _ (.cons (.agg (TK.lay Q) Q Q Q Q) (.cons (.tmp 3) .nil)) Q,(.cons (kS (.cons (.d _) Q (.cons (.d _) Q (.cons (eO Q) Q .nil)))) (.refl _) (.cons (.d _) (.refl _) .nil))⟩

end Go.Proofs.YtcagmechagiclaaGreatDoor
