/- Texts of this proof, joined, without what it does not use. No condition. -/
import Derived.Shelf.SlSortCmp.NoneTotal
import Derived.Shelf.Slices.CompactI
import Derived.Shelf.Slices.In.SortNone
import Derived.Shelf.Sort.Plain
import Derived.Test.YtofndjhpbonpbaaGreatDoorQr

set_option maxHeartbeats 8000000
set_option linter.unusedSimpArgs false
set_option linter.unusedVariables false
set_option maxRecDepth 20000
namespace Go.Proofs.YtofndjhpbonpbaaGreatDoor
open Go Go.TL Go.Sort Go.Shelf Go.RowKit Go.Lib Go.Proofs.Tryz
def qKQ:Go.Shelf.Ren:=⟨fun|189=>134|125=>176|257=>175|128=>202|129=>203|294=>193|295=>194|296=>195|297=>196|298=>197|299=>198|216=>199|300=>200|301=>201|328=>209|329=>210|330=>211|331=>212|332=>213|215=>207|343=>226|n=>n,fun|28=>30|3=>3|46=>255|0=>0|51=>278|53=>280|4=>4|183=>272|182=>271|131=>155|5=>5|9=>9|218=>287|222=>291|228=>298|229=>299|n=>n,fun|n=>n⟩
theorem qNO:Go.Proofs.Lays.n189 TP qKQ where
 mixed:=by kernel_rfl
 f125:=func176.trans (congrArg some (by kernel_rfl))
 f128:=func202.trans (congrArg some (by kernel_rfl))
 f129:=func203.trans (congrArg some (by kernel_rfl))
 f189:=func134.trans (congrArg some (by kernel_rfl))
 f215:=func207.trans (congrArg some (by kernel_rfl))
 f216:=func199.trans (congrArg some (by kernel_rfl))
 f257:=func175.trans (congrArg some (by kernel_rfl))
 f294:=func193.trans (congrArg some (by kernel_rfl))
 f295:=func194.trans (congrArg some (by kernel_rfl))
 f296:=func195.trans (congrArg some (by kernel_rfl))
 f297:=func196.trans (congrArg some (by kernel_rfl))
 f298:=func197.trans (congrArg some (by kernel_rfl))
 f299:=func198.trans (congrArg some (by kernel_rfl))
 f300:=func200.trans (congrArg some (by kernel_rfl))
 f301:=func201.trans (congrArg some (by kernel_rfl))
 f328:=func209.trans (congrArg some (by kernel_rfl))
 f329:=func210.trans (congrArg some (by kernel_rfl))
 f330:=func211.trans (congrArg some (by kernel_rfl))
 f331:=func212.trans (congrArg some (by kernel_rfl))
 f332:=func213.trans (congrArg some (by kernel_rfl))
 f343:=func226.trans (congrArg some (by kernel_rfl))
 t0:=Tryz.underlying0
 a0:=Tryz.isAgg0
 z0:=Tryz.sizeOf0
 v0:=Tryz.zeroValue0
 t3:=Tryz.underlying3
 a3:=Tryz.isAgg3
 z3:=Tryz.sizeOf3
 v3:=Tryz.zeroValue3
 t4:=Tryz.underlying4
 a4:=Tryz.isAgg4
 z4:=Tryz.sizeOf4
 v4:=Tryz.zeroValue4
 t5:=Tryz.underlying5
 a5:=Tryz.isAgg5
 z5:=Tryz.sizeOf5
 v5:=Tryz.zeroValue5
 t9:=Tryz.underlying9
 a9:=Tryz.isAgg9
 z9:=Tryz.sizeOf9
 v9:=Tryz.zeroValue9
 t28:=Tryz.underlying30
 a28:=Tryz.isAgg30
 z28:=Tryz.sizeOf30
 v28:=Tryz.zeroValue30
 t46:=Tryz.underlying255
 a46:=Tryz.isAgg255
 z46:=Tryz.sizeOf255
 v46:=Tryz.zeroValue255
 t51:=Tryz.underlying278
 a51:=Tryz.isAgg278
 z51:=Tryz.sizeOf278
 v51:=Tryz.zeroValue278
 t53:=Tryz.underlying280
 a53:=Tryz.isAgg280
 z53:=Tryz.sizeOf280
 v53:=Tryz.zeroValue280
 t131:=Tryz.underlying155
 a131:=Tryz.isAgg155
 z131:=Tryz.sizeOf155
 v131:=Tryz.zeroValue155
 t182:=Tryz.underlying271
 a182:=Tryz.isAgg271
 z182:=Tryz.sizeOf271
 v182:=Tryz.zeroValue271
 t183:=Tryz.underlying272
 a183:=Tryz.isAgg272
 z183:=Tryz.sizeOf272
 v183:=Tryz.zeroValue272
 t218:=Tryz.underlying287
 a218:=Tryz.isAgg287
 z218:=Tryz.sizeOf287
 v218:=Tryz.zeroValue287
 t222:=Tryz.underlying291
 a222:=Tryz.isAgg291
 z222:=Tryz.sizeOf291
 v222:=Tryz.zeroValue291
 t228:=Tryz.underlying298
 a228:=Tryz.isAgg298
 z228:=Tryz.sizeOf298
 v228:=Tryz.zeroValue298
 t229:=Tryz.underlying299
 a229:=Tryz.isAgg299
 z229:=Tryz.sizeOf299
 v229:=Tryz.zeroValue299
theorem rH (xs:List Int) (hlen:xs.length<=1000000000):Ret TP 134 [.flat 3 1 (xs.map (D.int .i64))] (λ_=>false) [.msl 0 1 0 xs.length] (.tup []) [.flat 3 1 ((kZ xs).map (D.int .i64))]:=
 qWP 3 (λ_=>false) xs (aZ rfl) (by omega) (λp cap w=>Any.slices_Sort_int_none qNO p cap w) (λblk off cap zs w hH hb hl=>Any.slices_Sort_int qNO blk off cap zs w hH hb hl)
def qMS:Go.Shelf.Ren:=⟨fun|20=>173|n=>n,fun|22=>30|3=>3|4=>4|0=>0|n=>n,fun|n=>n⟩
theorem qQO:Go.Proofs.Lays2.n20 TP qMS where
 mixed:=by kernel_rfl
 f20:=func173.trans (congrArg some (by kernel_rfl))
 t0:=Tryz.underlying0
 a0:=Tryz.isAgg0
 z0:=Tryz.sizeOf0
 v0:=Tryz.zeroValue0
 t3:=Tryz.underlying3
 a3:=Tryz.isAgg3
 z3:=Tryz.sizeOf3
 v3:=Tryz.zeroValue3
 t4:=Tryz.underlying4
 a4:=Tryz.isAgg4
 z4:=Tryz.sizeOf4
 v4:=Tryz.zeroValue4
 t22:=Tryz.underlying30
 a22:=Tryz.isAgg30
 z22:=Tryz.sizeOf30
 v22:=Tryz.zeroValue30
 i3:=by kernel_rfl
theorem uV (xs:List Int) (hlen:xs.length<=1000000000):Ret TP 173 [.flat 3 1 (xs.map (D.int .i64))] (λ_=>false) [.msl 0 1 0 xs.length] (.msl 0 1 0 (Go.Lib.compact xs).length) [.flat 3 1 ((Go.Lib.compact xs).map (D.int .i64))]:=
 qLA 3 (λ_=>false) xs (aZ rfl) (by omega) (λp cap w=>Any.slices_Compact_int_empty qQO p cap w) (λblk off cap zs w hH h1 h2=>Any.slices_Compact_int qQO blk off cap zs w hH h1 h2)
def qNP:Go.Shelf.Ren:=⟨fun|6=>184|15=>176|14=>206|28=>202|29=>203|20=>215|21=>216|22=>217|23=>218|24=>219|25=>220|26=>221|27=>222|46=>227|47=>210|48=>211|49=>228|50=>229|57=>230|n=>n,fun|22=>110|24=>126|25=>263|3=>3|39=>255|0=>0|53=>278|55=>280|4=>4|46=>272|45=>271|50=>155|5=>5|9=>9|66=>287|70=>291|76=>298|77=>299|n=>n,fun|n=>n⟩
theorem qUH:Go.Proofs.SlLaysF0.n6 TP qNP where
 mixed:=by kernel_rfl
 f6:=⟨Tryz.f184.name,by kernel_rfl,func184.trans (congrArg some (by kernel_rfl))⟩
 f14:=⟨Tryz.f206.name,by kernel_rfl,func206.trans (congrArg some (by kernel_rfl))⟩
 f15:=func176.trans (congrArg some (by kernel_rfl))
 f20:=⟨Tryz.f215.name,by kernel_rfl,func215.trans (congrArg some (by kernel_rfl))⟩
 f21:=⟨Tryz.f216.name,by kernel_rfl,func216.trans (congrArg some (by kernel_rfl))⟩
 f22:=⟨Tryz.f217.name,by kernel_rfl,func217.trans (congrArg some (by kernel_rfl))⟩
 f23:=⟨Tryz.f218.name,by kernel_rfl,func218.trans (congrArg some (by kernel_rfl))⟩
 f24:=⟨Tryz.f219.name,by kernel_rfl,func219.trans (congrArg some (by kernel_rfl))⟩
 f25:=⟨Tryz.f220.name,by kernel_rfl,func220.trans (congrArg some (by kernel_rfl))⟩
 f26:=⟨Tryz.f221.name,by kernel_rfl,func221.trans (congrArg some (by kernel_rfl))⟩
 f27:=⟨Tryz.f222.name,by kernel_rfl,func222.trans (congrArg some (by kernel_rfl))⟩
 f28:=func202.trans (congrArg some (by kernel_rfl))
 f29:=func203.trans (congrArg some (by kernel_rfl))
 f46:=⟨Tryz.f227.name,by kernel_rfl,func227.trans (congrArg some (by kernel_rfl))⟩
 f47:=func210.trans (congrArg some (by kernel_rfl))
 f48:=func211.trans (congrArg some (by kernel_rfl))
 f49:=⟨Tryz.f228.name,by kernel_rfl,func228.trans (congrArg some (by kernel_rfl))⟩
 f50:=⟨Tryz.f229.name,by kernel_rfl,func229.trans (congrArg some (by kernel_rfl))⟩
 f57:=⟨Tryz.f230.name,by kernel_rfl,func230.trans (congrArg some (by kernel_rfl))⟩
 t0:=Tryz.underlying0
 a0:=Tryz.isAgg0
 z0:=Tryz.sizeOf0
 v0:=Tryz.zeroValue0
 t3:=Tryz.underlying3
 a3:=Tryz.isAgg3
 z3:=Tryz.sizeOf3
 v3:=Tryz.zeroValue3
 t4:=Tryz.underlying4
 a4:=Tryz.isAgg4
 z4:=Tryz.sizeOf4
 v4:=Tryz.zeroValue4
 t5:=Tryz.underlying5
 a5:=Tryz.isAgg5
 z5:=Tryz.sizeOf5
 v5:=Tryz.zeroValue5
 t9:=Tryz.underlying9
 a9:=Tryz.isAgg9
 z9:=Tryz.sizeOf9
 v9:=Tryz.zeroValue9
 t22:=Tryz.underlying110
 a22:=Tryz.isAgg110
 z22:=Tryz.sizeOf110
 v22:=Tryz.zeroValue110
 t25:=Tryz.underlying263
 a25:=Tryz.isAgg263
 z25:=Tryz.sizeOf263
 v25:=Tryz.zeroValue263
 t39:=Tryz.underlying255
 a39:=Tryz.isAgg255
 z39:=Tryz.sizeOf255
 v39:=Tryz.zeroValue255
 t45:=Tryz.underlying271
 a45:=Tryz.isAgg271
 z45:=Tryz.sizeOf271
 v45:=Tryz.zeroValue271
 t46:=Tryz.underlying272
 a46:=Tryz.isAgg272
 z46:=Tryz.sizeOf272
 v46:=Tryz.zeroValue272
 t50:=Tryz.underlying155
 a50:=Tryz.isAgg155
 z50:=Tryz.sizeOf155
 v50:=Tryz.zeroValue155
 t53:=Tryz.underlying278
 a53:=Tryz.isAgg278
 z53:=Tryz.sizeOf278
 v53:=Tryz.zeroValue278
 t55:=Tryz.underlying280
 a55:=Tryz.isAgg280
 z55:=Tryz.sizeOf280
 v55:=Tryz.zeroValue280
 t66:=Tryz.underlying287
 a66:=Tryz.isAgg287
 z66:=Tryz.sizeOf287
 v66:=Tryz.zeroValue287
 t70:=Tryz.underlying291
 a70:=Tryz.isAgg291
 z70:=Tryz.sizeOf291
 v70:=Tryz.zeroValue291
 t76:=Tryz.underlying298
 a76:=Tryz.isAgg298
 z76:=Tryz.sizeOf298
 v76:=Tryz.zeroValue298
 t77:=Tryz.underlying299
 a77:=Tryz.isAgg299
 z77:=Tryz.sizeOf299
 v77:=Tryz.zeroValue299
theorem rA {G:FuncId} {c:D} {cs:List D} {m:Aa->Aa->Option Int} (hs:SortOk m) (hfn:qEE c=some (G,cs)) (hclo:∀ a b r,m a b=some r->RetD TP G ([a.enc,b.enc]++cs) (.int .i64 r)) (xs:List Aa) (hlen:xs.length<=1000000000):Ret TP 184 [.flat 126 2 (xs.map Aa.enc)] (λ_=>false) [.msl 0 2 0 xs.length,.d c] (.tup []) [.flat 126 2 ((pQ m xs).map Aa.enc)]:=by
 have hcb:qW TP G=true:=by
  obtain⟨r,hr⟩:=hs.tot default default;obtain⟨_,_,_,h,_⟩:=hclo _ _ _ hr;exact h.1
 have hlt:ltOf (λx y=>(m x y).getD 0)=ltM m:=rfl
 have hS := qWO (P := TP) (F := 184) (G := G) (sz := 2) (f := Aa.enc) (c := c) (cs := cs) (cf := fun x y => (m x y).getD 0) (S := fun d => d.toList.mergeSort fun x y => !(ltM m) y x) 126 (fun _ => false) xs (aZ rfl) (fun _ => rfl) (fun _ => rfl) (fun _ => rfl) hfn
  (λx y=>by obtain⟨r,hr⟩:=hs.tot x y;rw [hr];exact hclo x y r hr) (by omega) (by rw [List.length_mergeSort])
  (λp cap fv w=>AnyF.slices_SortFunc_none { qUH with } p cap fv w)
  (fun blk off cap cb d w hcl hH hb hl => AnyQ.slices_SortFunc_total qUH 2 Tryz.isAgg126 Tryz.sizeOf126 (fun x => (Aa.enc x).cells.map D.val) (fun _ => rfl) (fun x v hv => by obtain ⟨c, hc, rfl⟩ := List.mem_map.1 hv; simp only [Aa.enc, D.cells, zQB, List.not_mem_nil, or_false] at hc; rcases hc with rfl | rfl <;> rfl) (fun x y => (m x y).getD 0)
   ⟨hs.irrefl, hs.trans, hs.ntrans⟩ G cb blk off cap d w (qNB hcb) hcl hH hb hl hs.anti)
 rwa [show (xs.toArray.toList.mergeSort λx y=>!(ltM m) y x)=pQ m xs from qDC hs xs] at hS
end Go.Proofs.YtofndjhpbonpbaaGreatDoor
set_option maxHeartbeats 8000000
set_option linter.unusedSimpArgs false
set_option linter.unusedVariables false
set_option maxRecDepth 20000
namespace Go.Proofs.YtofndjhpbonpbaaGreatDoor
open Go Go.TL Go.Proofs.Tryz
theorem qJG {p0:Ag} {r:Bool} (hm:vS p0=some r):RetN TP 16 [p0.enc] (.bool (r)):=by
 refine .unit (aJ (aZ Q) func16 Q ntmps16 Q Q (λwX gX=>?_)) Q;unfold vS at hm;refine WN [0] Q Q (aO 1 Q (bR 0 Q Q Q (aL 3 Q (cI [(2,.d (.bool (((decide ((p0.Af.length:Int)<=(40:Int)))&&((decide ((p0.joints.length:Int)<=(80:Int)))&&((decide ((p0.Ah.length:Int)<=(30:Int)))&&((decide ((p0.balises.length:Int)<=(40:Int)))&&(decide ((p0.Ad.length:Int)<=(40:Int))))))))))] [2] [] Q ?_ ?_))))
 ·refine aO 3 Q (SX Q Q (aN TK Q Q Q) (aG 1 Q (SB TK Q (λq1 hq1=>?_))));cases q1
  ·refine aE 25 Q ?_;exact⟨[0],Q,k0,aW (aI (aK (by first|(simp [hq1];done)|(simp only [hq1];simp))) Q) Q⟩
  refine aG 2 Q (SX Q Q (aN TK Q Q Q) (aG 2 Q (SB TK Q (λq2 hq2=>?_))));cases q2
  ·refine aE 19 Q ?_;exact⟨[0],Q,k0,aW (aI (aK (by first|(simp [hq1,hq2];done)|(simp only [hq1,hq2];simp))) Q) Q⟩
  refine aG 2 Q (SX Q Q (aN TK Q Q Q) (aG 2 Q (SB TK Q (λq3 hq3=>?_))));cases q3
  ·refine aE 13 Q ?_;exact⟨[0],Q,k0,aW (aI (aK (by first|(simp [hq1,hq2,hq3];done)|(simp only [hq1,hq2,hq3];simp))) Q) Q⟩
  refine aG 2 Q (SX Q Q (aN TK Q Q Q) (aG 2 Q (SB TK Q (λq4 hq4=>?_))));cases q4
  ·refine aE 7 Q ?_;exact⟨[0],Q,k0,aW (aI (aK (by first|(simp [hq1,hq2,hq3,hq4];done)|(simp only [hq1,hq2,hq3,hq4];simp))) Q) Q⟩
  refine aG 2 Q (SX Q Q (aN TK Q Q Q) (aE 4 Q ?_));exact⟨[0],Q,k0,aW (aI (aK (by first|(simp [hq1,hq2,hq3,hq4];done)|(simp only [hq1,hq2,hq3,hq4];simp))) Q) Q⟩
 exact WN [2] Q Q (aM 1 Q (aS hm Q))
theorem qJH {p0:Al} {p1:Az} {r:Bool} (hm:oD p0 p1=some r):RetN TP 17 [p0.enc,p1.enc] (.bool (r)):=by
 refine .unit (aJ (aZ Q) func17 Q ntmps17 Q Q (λwX gX=>?_)) Q;unfold oD at hm;refine WN [0,1] Q Q (aO 1 Q (bR 0 Q Q Q (bR 1 Q Q Q (aL 3 Q (bF hm (λ_=>[]) (λ_=>[]) [] [2,3] Q (λz1 hm hz1=>?_) (λj hm=>?_))))))
 ·refine aO 3 Q (SX Q Q (aN TK Q Q Q) (aL 4 Q (aV hm (λx3=>([(10,.d (.int .i64 x3))])) (λx3=>[]) [10] [2,3,9] [0,1] Q k0 Q Q Q Q Q (λx3 z4 hm hz4=>WN [2,3,9,10] Q Q (bN 5 Q (bL hm Q (λh5 hm=>?_) (λh5 hm=>?_)))))))
  ·refine aR 13 Q (VE hm λe6 he6 hm=>SX Q Q (bA TK Q Q Q Q he6) (aG 1 Q (cK 2 Q Q dY Q (cV 2 [none,none,none,some 3,some 2,some 1,none,none,some 3,some 2,some 1,some 2,some 1,some 2] Q Q (aL 3 Q ?_)))));refine cI [(51,.d (.bool (((decide ((30:Int) < (e6.Ad.length:Int)))||((decide ((30:Int) < (e6.Ao.length:Int)))||((decide ((30:Int) < (e6.Ae.length:Int)))||((decide ((30:Int) < (e6.Aj.length:Int)))||((decide ((30:Int) < (e6.At.length:Int)))||(decide ((30:Int) < (e6.path.length:Int)))))))))))] [51] [2,3,9,10] Q ?_ ?_
   ·refine aO 3 Q (SX Q Q (aN TK Q Q Q) (aG 1 Q (SB TK Q (λq7 hq7=>?_))));cases q7
    ·refine aG 2 Q (SX Q Q (aN TK Q Q Q) (aG 2 Q (SB TK Q (λq8 hq8=>?_))));cases q8
     ·refine aG 2 Q (SX Q Q (aN TK Q Q Q) (aG 2 Q (SB TK Q (λq9 hq9=>?_))));cases q9
      ·refine aG 2 Q (SX Q Q (aN TK Q Q Q) (aG 2 Q (SB TK Q (λq10 hq10=>?_))));cases q10
       ·refine aG 2 Q (SX Q Q (aN TK Q Q Q) (aG 2 Q (SB TK Q (λq11 hq11=>?_))));cases q11
        ·refine aG 2 Q (SX Q Q (aN TK Q Q Q) (aE 3 Q ?_));exact⟨[0,1,2],Q,k0,aW (aI (aK (by first|(simp [hq7,hq8,hq9,hq10,hq11];done)|(simp only [hq7,hq8,hq9,hq10,hq11];simp))) Q) Q⟩
        refine aE 6 Q ?_;exact⟨[0,1,2],Q,k0,aW (aI (aK (by first|(simp [hq7,hq8,hq9,hq10,hq11];done)|(simp only [hq7,hq8,hq9,hq10,hq11];simp))) Q) Q⟩
       refine aE 12 Q ?_;exact⟨[0,1,2],Q,k0,aW (aI (aK (by first|(simp [hq7,hq8,hq9,hq10];done)|(simp only [hq7,hq8,hq9,hq10];simp))) Q) Q⟩
      refine aE 18 Q ?_;exact⟨[0,1,2],Q,k0,aW (aI (aK (by first|(simp [hq7,hq8,hq9];done)|(simp only [hq7,hq8,hq9];simp))) Q) Q⟩
     refine aE 24 Q ?_;exact⟨[0,1,2],Q,k0,aW (aI (aK (by first|(simp [hq7,hq8];done)|(simp only [hq7,hq8];simp))) Q) Q⟩
    refine aE 30 Q ?_;exact⟨[0,1,2],Q,k0,aW (aI (aK (by first|(simp [hq7];done)|(simp only [hq7];simp))) Q) Q⟩
   refine WN [2,3,9,10,51] Q Q (bH hm Q (λh12 hm=>?_) (λh12 hm=>?_))
   ·refine aM 7 Q (IE hm λv13 hm hz=>?_);rw [hz4 _ hz] at hm;refine WR (bD 1 Q (IE hm λv14 hm hz=>?_));rw [hz1 _ hz] at hm;exact WR (aS hm Q)
   exact aR 4 Q (GE hm λg15 hm=>SX Q Q (bI Q Q Q Q g15) (aE 2 Q (aX [0,1] hm Q Q)))
  refine aM 2 Q (IE hm λv16 hm hz=>?_);rw [hz4 _ hz] at hm;exact WX (bD 1 Q (aX [0,1] hm Q Q))
 refine WN [2,3] Q Q (cI [(4,.d (.bool (((decide ((p0.Ab.length:Int)<=(50:Int)))&&((decide ((p0.Ae.length:Int)<=(40:Int)))&&((decide ((p0.A1.length:Int)<=(40:Int)))&&((decide ((p1.Ab.length:Int)<=(50:Int)))&&(decide ((p1.lies.length:Int)<=(40:Int))))))))))] [4] [] Q ?_ ?_)
 ·refine aO 3 Q (SX Q Q (aN TK Q Q Q) (aG 1 Q (SB TK Q (λq17 hq17=>?_))));cases q17
  ·refine aE 25 Q ?_;exact⟨[0,1],Q,k0,aW (aI (aK (by first|(simp [hq17];done)|(simp only [hq17];simp))) Q) Q⟩
  refine aG 2 Q (SX Q Q (aN TK Q Q Q) (aG 2 Q (SB TK Q (λq18 hq18=>?_))));cases q18
  ·refine aE 19 Q ?_;exact⟨[0,1],Q,k0,aW (aI (aK (by first|(simp [hq17,hq18];done)|(simp only [hq17,hq18];simp))) Q) Q⟩
  refine aG 2 Q (SX Q Q (aN TK Q Q Q) (aG 2 Q (SB TK Q (λq19 hq19=>?_))));cases q19
  ·refine aE 13 Q ?_;exact⟨[0,1],Q,k0,aW (aI (aK (by first|(simp [hq17,hq18,hq19];done)|(simp only [hq17,hq18,hq19];simp))) Q) Q⟩
  refine aG 2 Q (SX Q Q (aN TK Q Q Q) (aG 2 Q (SB TK Q (λq20 hq20=>?_))));cases q20
  ·refine aE 7 Q ?_;exact⟨[0,1],Q,k0,aW (aI (aK (by first|(simp [hq17,hq18,hq19,hq20];done)|(simp only [hq17,hq18,hq19,hq20];simp))) Q) Q⟩
  refine aG 2 Q (SX Q Q (aN TK Q Q Q) (aE 4 Q ?_));exact⟨[0,1],Q,k0,aW (aI (aK (by first|(simp [hq17,hq18,hq19,hq20];done)|(simp only [hq17,hq18,hq19,hq20];simp))) Q) Q⟩
 exact WN [4] Q Q (aM 1 Q (aS hm Q))
theorem qPS {p0:Bg} {r:Bool} (hm:sZ p0=some r):RetN TP 18 [p0.enc] (.bool (r)):=by
 refine .unit (aJ (aZ Q) func18 Q ntmps18 Q Q (λwX gX=>?_)) Q;unfold sZ at hm;refine WN [0] Q Q (aO 1 Q (bR 0 Q Q Q (aL 3 Q (bF hm (λ_=>[]) (λ_=>[]) [] [1] Q (λz1 hm hz1=>?_) (λj hm=>?_)))))
 ·refine aO 3 Q (SX Q Q (aN TK Q Q Q) (aL 4 Q (aV hm (λx3=>([(8,.d (.int .i64 x3))])) (λx3=>[]) [8] [1,7] [0] Q k0 Q Q Q Q Q (λx3 z4 hm hz4=>WN [1,7,8] Q Q (bN 5 Q (bL hm Q (λh5 hm=>?_) (λh5 hm=>?_)))))))
  ·refine aR 13 Q (VE hm λe6 he6 hm=>SX Q Q (bA TK Q Q Q Q he6) (aG 1 Q (cK 1 Q Q rE Q (cV 1 [none,none,none,none,some 3,some 1,some 1,some 1,some 1,none,none,none,none,none] Q Q (aL 3 Q ?_)))));refine cI [(43,.d (.bool (((decide ((100:Int) < (e6.steps.length:Int)))||((decide ((60:Int) < (e6.Ab.length:Int)))||((decide ((60:Int) < (e6.starts.length:Int)))||((decide ((60:Int) < (e6.ends.length:Int)))||(decide ((60:Int) < (e6.done.length:Int))))))))))] [43] [1,7,8] Q ?_ ?_
   ·refine aO 3 Q (SX Q Q (aN TK Q Q Q) (aG 1 Q (SB TK Q (λq7 hq7=>?_))));cases q7
    ·refine aG 2 Q (SX Q Q (aN TK Q Q Q) (aG 2 Q (SB TK Q (λq8 hq8=>?_))));cases q8
     ·refine aG 2 Q (SX Q Q (aN TK Q Q Q) (aG 2 Q (SB TK Q (λq9 hq9=>?_))));cases q9
      ·refine aG 2 Q (SX Q Q (aN TK Q Q Q) (aG 2 Q (SB TK Q (λq10 hq10=>?_))));cases q10
       ·refine aG 2 Q (SX Q Q (aN TK Q Q Q) (aE 3 Q ?_));exact⟨[0,1],Q,k0,aW (aI (aK (by first|(simp [hq7,hq8,hq9,hq10];done)|(simp only [hq7,hq8,hq9,hq10];simp))) Q) Q⟩
       refine aE 6 Q ?_;exact⟨[0,1],Q,k0,aW (aI (aK (by first|(simp [hq7,hq8,hq9,hq10];done)|(simp only [hq7,hq8,hq9,hq10];simp))) Q) Q⟩
      refine aE 12 Q ?_;exact⟨[0,1],Q,k0,aW (aI (aK (by first|(simp [hq7,hq8,hq9];done)|(simp only [hq7,hq8,hq9];simp))) Q) Q⟩
     refine aE 18 Q ?_;exact⟨[0,1],Q,k0,aW (aI (aK (by first|(simp [hq7,hq8];done)|(simp only [hq7,hq8];simp))) Q) Q⟩
    refine aE 24 Q ?_;exact⟨[0,1],Q,k0,aW (aI (aK (by first|(simp [hq7];done)|(simp only [hq7];simp))) Q) Q⟩
   refine WN [1,7,8,43] Q Q (bH hm Q (λh11 hm=>?_) (λh11 hm=>?_))
   ·refine aM 7 Q (IE hm λv12 hm hz=>?_);rw [hz4 _ hz] at hm;refine WR (bD 1 Q (IE hm λv13 hm hz=>?_));rw [hz1 _ hz] at hm;exact WR (aS hm Q)
   exact aR 4 Q (GE hm λg14 hm=>SX Q Q (bI Q Q Q Q g14) (aE 2 Q (aX [0] hm Q Q)))
  refine aM 2 Q (IE hm λv15 hm hz=>?_);rw [hz4 _ hz] at hm;exact WX (bD 1 Q (aX [0] hm Q Q))
 refine WN [1] Q Q (cI [(2,.d (.bool (((decide ((p0.tracks.length:Int)<=(10:Int)))&&(decide ((p0.sessions.length:Int)<=(10:Int)))))))] [2] [] Q ?_ ?_)
 ·refine aO 3 Q (SX Q Q (aN TK Q Q Q) (aG 1 Q (SB TK Q (λq16 hq16=>?_))));cases q16
  ·refine aE 7 Q ?_;exact⟨[0],Q,k0,aW (aI (aK (by first|(simp [hq16];done)|(simp only [hq16];simp))) Q) Q⟩
  refine aG 2 Q (SX Q Q (aN TK Q Q Q) (aE 4 Q ?_));exact⟨[0],Q,k0,aW (aI (aK (by first|(simp [hq16];done)|(simp only [hq16];simp))) Q) Q⟩
 exact WN [2] Q Q (aM 1 Q (aS hm Q))
theorem qPR {p0:Am} {r:Bool} (hm:sY p0=some r):RetN TP 6 [p0.enc] (.bool (r)):=by
 refine .unit (aJ (aZ Q) func6 Q ntmps6 Q Q (λwX gX=>?_)) Q;unfold sY at hm;refine WN [0] Q Q (aO 1 Q (bR 0 Q Q Q (aL 4 Q ?_)));refine cI [(82,.d (.bool (((decide ((10:Int) < (p0.units.length:Int)))||((decide ((40:Int) < (p0.machines.length:Int)))||((decide ((40:Int) < (p0.clear.length:Int)))||((decide ((100:Int) < (p0.air.length:Int)))||((decide ((30:Int) < (p0.faults.length:Int)))||((decide ((30:Int) < (p0.pending.length:Int)))||((decide ((40:Int) < (p0.possessions.length:Int)))||((decide ((30:Int) < (p0.restrictions.length:Int)))||((decide ((30:Int) < (p0.orders.length:Int)))||((decide ((6:Int) < (p0.trips.length:Int)))||((decide ((10:Int) < (p0.plan.starts.length:Int)))||((decide ((10:Int) < (p0.progress.length:Int)))||(decide ((200:Int) < (p0.decisions.length:Int))))))))))))))))))] [82] [1] Q ?_ ?_
 ·refine aO 3 Q (SX Q Q (aN TK Q Q Q) (aG 1 Q (SB TK Q (λq1 hq1=>?_))));cases q1
  ·refine aG 2 Q (SX Q Q (aN TK Q Q Q) (aG 2 Q (SB TK Q (λq2 hq2=>?_))));cases q2
   ·refine aG 2 Q (SX Q Q (aN TK Q Q Q) (aG 2 Q (SB TK Q (λq3 hq3=>?_))));cases q3
    ·refine aG 2 Q (SX Q Q (aN TK Q Q Q) (aG 2 Q (SB TK Q (λq4 hq4=>?_))));cases q4
     ·refine aG 2 Q (SX Q Q (aN TK Q Q Q) (aG 2 Q (SB TK Q (λq5 hq5=>?_))));cases q5
      ·refine aG 2 Q (SX Q Q (aN TK Q Q Q) (aG 2 Q (SB TK Q (λq6 hq6=>?_))));cases q6
       ·refine aG 2 Q (SX Q Q (aN TK Q Q Q) (aG 2 Q (SB TK Q (λq7 hq7=>?_))));cases q7
        ·refine aG 2 Q (SX Q Q (aN TK Q Q Q) (aG 2 Q (SB TK Q (λq8 hq8=>?_))));cases q8
         ·refine aG 2 Q (SX Q Q (aN TK Q Q Q) (aG 2 Q (SB TK Q (λq9 hq9=>?_))));cases q9
          ·refine aG 2 Q (SX Q Q (aN TK Q Q Q) (aG 2 Q (SB TK Q (λq10 hq10=>?_))));cases q10
           ·refine aG 3 Q (SX Q Q (aN TK Q Q Q) (aG 2 Q (SB TK Q (λq11 hq11=>?_))));cases q11
            ·refine aG 2 Q (SX Q Q (aN TK Q Q Q) (aG 2 Q (SB TK Q (λq12 hq12=>?_))));cases q12
             ·refine aG 2 Q (SX Q Q (aN TK Q Q Q) (aE 3 Q ?_));exact⟨[0],Q,k0,aW (aI (aK (by first|(simp [hq1,hq2,hq3,hq4,hq5,hq6,hq7,hq8,hq9,hq10,hq11,hq12];done)|(simp only [hq1,hq2,hq3,hq4,hq5,hq6,hq7,hq8,hq9,hq10,hq11,hq12];simp))) Q) Q⟩
             refine aE 6 Q ?_;exact⟨[0],Q,k0,aW (aI (aK (by first|(simp [hq1,hq2,hq3,hq4,hq5,hq6,hq7,hq8,hq9,hq10,hq11,hq12];done)|(simp only [hq1,hq2,hq3,hq4,hq5,hq6,hq7,hq8,hq9,hq10,hq11,hq12];simp))) Q) Q⟩
            refine aE 12 Q ?_;exact⟨[0],Q,k0,aW (aI (aK (by first|(simp [hq1,hq2,hq3,hq4,hq5,hq6,hq7,hq8,hq9,hq10,hq11];done)|(simp only [hq1,hq2,hq3,hq4,hq5,hq6,hq7,hq8,hq9,hq10,hq11];simp))) Q) Q⟩
           refine aE 19 Q ?_;exact⟨[0],Q,k0,aW (aI (aK (by first|(simp [hq1,hq2,hq3,hq4,hq5,hq6,hq7,hq8,hq9,hq10];done)|(simp only [hq1,hq2,hq3,hq4,hq5,hq6,hq7,hq8,hq9,hq10];simp))) Q) Q⟩
          refine aE 25 Q ?_;exact⟨[0],Q,k0,aW (aI (aK (by first|(simp [hq1,hq2,hq3,hq4,hq5,hq6,hq7,hq8,hq9];done)|(simp only [hq1,hq2,hq3,hq4,hq5,hq6,hq7,hq8,hq9];simp))) Q) Q⟩
         refine aE 31 Q ?_;exact⟨[0],Q,k0,aW (aI (aK (by first|(simp [hq1,hq2,hq3,hq4,hq5,hq6,hq7,hq8];done)|(simp only [hq1,hq2,hq3,hq4,hq5,hq6,hq7,hq8];simp))) Q) Q⟩
        refine aE 37 Q ?_;exact⟨[0],Q,k0,aW (aI (aK (by first|(simp [hq1,hq2,hq3,hq4,hq5,hq6,hq7];done)|(simp only [hq1,hq2,hq3,hq4,hq5,hq6,hq7];simp))) Q) Q⟩
       refine aE 43 Q ?_;exact⟨[0],Q,k0,aW (aI (aK (by first|(simp [hq1,hq2,hq3,hq4,hq5,hq6];done)|(simp only [hq1,hq2,hq3,hq4,hq5,hq6];simp))) Q) Q⟩
      refine aE 49 Q ?_;exact⟨[0],Q,k0,aW (aI (aK (by first|(simp [hq1,hq2,hq3,hq4,hq5];done)|(simp only [hq1,hq2,hq3,hq4,hq5];simp))) Q) Q⟩
     refine aE 55 Q ?_;exact⟨[0],Q,k0,aW (aI (aK (by first|(simp [hq1,hq2,hq3,hq4];done)|(simp only [hq1,hq2,hq3,hq4];simp))) Q) Q⟩
    refine aE 61 Q ?_;exact⟨[0],Q,k0,aW (aI (aK (by first|(simp [hq1,hq2,hq3];done)|(simp only [hq1,hq2,hq3];simp))) Q) Q⟩
   refine aE 67 Q ?_;exact⟨[0],Q,k0,aW (aI (aK (by first|(simp [hq1,hq2];done)|(simp only [hq1,hq2];simp))) Q) Q⟩
  refine aE 73 Q ?_;exact⟨[0],Q,k0,aW (aI (aK (by first|(simp [hq1];done)|(simp only [hq1];simp))) Q) Q⟩
 refine WN [1,82] Q Q (bH hm Q (λh13 hm=>?_) (λh13 hm=>?_))
 ·exact aM 6 Q (aS hm Q)
 refine bM 2 Q (bF hm (λ_=>[]) (λ_=>[]) [] [1] Q (λz14 hm hz14=>?_) (λj hm=>?_))
 ·refine aO 3 Q (SX Q Q (aN TK Q Q Q) (aL 4 Q (aV hm (λx16=>([(86,.d (.int .i64 x16))])) (λx16=>[]) [86] [1,85] [0] Q k0 Q Q Q Q Q (λx16 z17 hm hz17=>WN [1,85,86] Q Q (bN 5 Q (bL hm Q (λh18 hm=>?_) (λh18 hm=>?_)))))))
  ·refine bM 9 Q (aP hm (λx19=>([(121,.d (.bool (x19)))])) (λx19=>[]) [121] [1,85,86] Q (λz20 hm=>?_) (λx19 hm=>?_))
   ·refine aO 4 Q (VE hm λe21 he21 hm=>SX Q Q (bA TK Q Q Q Q he21) (aG 3 Q (SX Q Q (aN TK Q Q Q) (aG 1 Q (SB TK Q (λq22 hq22=>?_))))));cases q22
    ·replace hm:=JF hq22 hm;refine aG 3 Q (VE hm λe23 he23 hm=>SX Q Q (bA TK Q Q Q Q he23) (aG 4 Q (SX Q Q (aN TK Q Q Q) (aG 2 Q (SB TK Q (λq24 hq24=>?_))))));cases q24
     ·replace hm:=JF hq24 hm;exact aG 3 Q (VE hm λe25 he25 hm=>SX Q Q (bA TK Q Q Q Q he25) (aG 4 Q (SX Q Q (aN TK Q Q Q) (aE 3 Q (aT [0] hm Q Q)))))
     replace hm:=JT hq24 hm;exact aE 12 Q (aT [0] hm Q Q)
    replace hm:=JT hq22 hm;exact aE 24 Q (aT [0] hm Q Q)
   refine WN [1,85,86,121] Q Q (bH hm Q (λh26 hm=>?_) (λh26 hm=>?_))
   ·refine aM 7 Q (IE hm λv27 hm hz=>?_);rw [hz17 _ hz] at hm;refine WR (bD 1 Q (IE hm λv28 hm hz=>?_));rw [hz14 _ hz] at hm;exact WR (aS hm Q)
   exact aR 4 Q (GE hm λg29 hm=>SX Q Q (bI Q Q Q Q g29) (aE 2 Q (aX [0] hm Q Q)))
  refine aM 2 Q (IE hm λv30 hm hz=>?_);rw [hz17 _ hz] at hm;exact WX (bD 1 Q (aX [0] hm Q Q))
 refine WN [1] Q Q (bF hm (λ_=>[]) (λ_=>[]) [] [1] Q (λz31 hm hz31=>?_) (λj hm=>?_))
 ·refine aO 3 Q (SX Q Q (aN TK Q Q Q) (aL 4 Q (aV hm (λx33=>([(126,.d (.int .i64 x33))])) (λx33=>[]) [126] [1,125] [0] Q k0 Q Q Q Q Q (λx33 z34 hm hz34=>WN [1,125,126] Q Q (bN 5 Q (bL hm Q (λh35 hm=>?_) (λh35 hm=>?_)))))))
  ·refine aR 13 Q (VE hm λe36 he36 hm=>SX Q Q (bA TK Q Q Q Q he36) (aG 2 Q (SX Q Q (aN TK Q Q Q) (aL 3 Q (bL hm Q (λh37 hm=>?_) (λh37 hm=>?_))))))
   ·refine aM 7 Q (IE hm λv38 hm hz=>?_);rw [hz34 _ hz] at hm;refine WR (bD 1 Q (IE hm λv39 hm hz=>?_));rw [hz31 _ hz] at hm;exact WR (aS hm Q)
   exact aR 4 Q (GE hm λg40 hm=>SX Q Q (bI Q Q Q Q g40) (aE 2 Q (aX [0] hm Q Q)))
  refine aM 2 Q (IE hm λv41 hm hz=>?_);rw [hz34 _ hz] at hm;exact WX (bD 1 Q (aX [0] hm Q Q))
 refine WN [1] Q Q (bF hm (λ_=>[]) (λ_=>[]) [] [1] Q (λz42 hm hz42=>?_) (λj hm=>?_))
 ·refine aO 3 Q (SX Q Q (aN TK Q Q Q) (aL 4 Q (aV hm (λx44=>([(141,.d (.int .i64 x44))])) (λx44=>[]) [141] [1,140] [0] Q k0 Q Q Q Q Q (λx44 z45 hm hz45=>WN [1,140,141] Q Q (bN 5 Q (bL hm Q (λh46 hm=>?_) (λh46 hm=>?_)))))))
  ·refine aR 13 Q (VE hm λe47 he47 hm=>SX Q Q (bA TK Q Q Q Q he47) (aL 6 Q (bL hm Q (λh48 hm=>?_) (λh48 hm=>?_))))
   ·refine aM 7 Q (IE hm λv49 hm hz=>?_);rw [hz45 _ hz] at hm;refine WR (bD 1 Q (IE hm λv50 hm hz=>?_));rw [hz42 _ hz] at hm;exact WR (aS hm Q)
   exact aR 4 Q (GE hm λg51 hm=>SX Q Q (bI Q Q Q Q g51) (aE 2 Q (aX [0] hm Q Q)))
  refine aM 2 Q (IE hm λv52 hm hz=>?_);rw [hz45 _ hz] at hm;exact WX (bD 1 Q (aX [0] hm Q Q))
 refine WN [1] Q Q (aP hm (λx53=>([(2,.d (.bool (x53)))])) (λx53=>[]) [2] [] Q (λz54 hm=>?_) (λx53 hm=>?_))
 ·refine aO 3 Q (c_N hm (qJG ·) Q Q Q Q λr55 hm=>SB TK Q (λq56 hq56=>?_));cases q56
  ·replace hm:=JB hq56 hm;exact aE 13 Q (aT [0] hm Q Q)
  replace hm:=JA hq56 hm;refine aG 4 Q (c_N hm (qJH ·) Q Q Q Q λr57 hm=>aG 1 Q (SB TK Q (λq58 hq58=>?_)));cases q58
  ·replace hm:=JB hq58 hm;exact aE 6 Q (aT [0] hm Q Q)
  replace hm:=JA hq58 hm;exact aG 2 Q (c_N hm (qPS ·) Q Q Q Q λr59 hm=>aE 3 Q (aT [0] hm Q Q))
 exact WN [2] Q Q (aM 1 Q (aS hm Q))
theorem qIS {p0:Ag} {r:Bh} (hm:nS p0=some r):RetD TP 87 [p0.enc] (r.enc):=by
 refine .of (mv:=λ_=>false) (aJ (aZ Q) func87 Q ntmps87 Q Q (λwX gX=>?_));unfold nS at hm;refine WN [0] Q Q (aO 1 Q (bR 0 Q Q Q (cK 1 Q Q qEG Q (fP (f:=D.str) 1 0 2 9 1 Q Q Q (fP (f:=D.str) 1 1 3 9 1 Q Q Q (fP (f:=D.str) 1 2 4 9 1 Q Q Q (aL 2 Q (WN [1,2] Q Q (aR 1 Q (SX Q Q (qSN Q zDV qEG Q Q Q Q) (cK 5 Q Q qEG Q (fP (f:=D.str) 5 0 6 9 1 Q Q Q (fP (f:=D.str) 5 1 7 9 1 Q Q Q ?_)))))))))))));refine fP (f:=D.str) 5 2 8 9 1 Q Q Q (aG 1 Q (fP (f:=D.str) 5 0 9 9 1 Q Q Q (fP (f:=D.str) 5 1 10 9 1 Q Q Q (fP (f:=D.str) 5 2 11 9 1 Q Q Q (aL 2 Q (WN [1,2,3] Q Q (aR 1 Q ?_)))))));refine SX Q Q (dG Q kQ Q Q (by decide) (by decide) Q) ?_;refine aG 3 Q (GE hm λg1 hm=>cB (f:=D.str) p0.Ad TK Q Q xM Q Q Q Q Q (λh=>absurd h (zQV _)) Q bZ g1 Q Q ?_);refine SX Q Q (dG Q kQ Q Q (by decide) (by decide) Q) ?_;refine aL 3 Q (WN [1,2,3] Q Q (aP hm (λb2=>[]) (λb2=>([(5,.box 171 [.msl 9 1 0 (([]:List BA)++p0.Ad).length,.msl 10 1 0 b2.length,.msl 11 1 0 ([]:List BA).length]),(10,.flat 9 1 (b2.map D.str))])) [] [1,2,3] Q (λz3 hm=>?_) (λb2 hm=>?_)))
 ·refine aO 3 Q (SX Q Q (aN TK Q Q Q) (aL 4 Q (aV hm (λ(x7,b8)=>([(18,.d (.int .i64 x7))])) (λ(x7,b8)=>([(5,.box 171 [.msl 9 1 0 (([]:List BA)++p0.Ad).length,.msl 10 1 0 b8.length,.msl 11 1 0 ([]:List BA).length]),(10,.flat 9 1 (b8.map D.str))])) [18] [1,2,3,16,17] [0,1,2,3,4,5,6,7,8,9,10,11] Q k0 Q Q Q Q Q (λs z9 hm hz9=>?_))));obtain⟨x7,b8⟩:=s;refine WN [1,2,3,16,17,18] Q Q (bN 5 Q (bL hm Q (λh10 hm=>?_) (λh10 hm=>?_)))
  ·refine aR 5 Q (VE hm λe11 he11 hm=>SX Q Q (bA TK Q Q Q Q he11) (aG 1 Q (cK 12 Q Q tK Q (aL 3 Q (WN [1,2,3,5,16,17,18] Q Q (aR 1 Q ?_))))));refine SX Q Q (dG Q kQ Q Q (by decide) (by decide) Q) ?_;refine aG 3 Q (SX Q Q (cF [.tmp 25] TK Q Q xM Q Q Q Q Q) (GE hm λg12 hm=>cB (f:=D.str) ([e11.name]:List BA) TK Q Q xM Q Q Q Q Q (λh=>absurd h (zQV _)) Q bZ g12 Q Q ?_));refine SX Q Q (dG Q kQ Q Q (by decide) (by decide) Q) ?_;exact aL 4 Q (WN [1,2,3,16,17,18] Q Q (aR 1 Q (GE hm λg13 hm=>SX Q Q (bI Q Q Q Q g13) (aE 2 Q (aX [0,1,2,3,4,5,6,7,8,9,10,11] hm Q Q)))))
  refine aM 2 Q (IE hm λv14 hm hz=>?_);rw [hz9 _ hz] at hm;exact WX (bD 1 Q (aT [0,1,2,3,4,5,6,7,8,9,10,11] hm Q Q))
 refine WN [1,2,3] Q Q (aP hm (λb15=>[]) (λb15=>([(5,.box 171 [.msl 9 1 0 (([]:List BA)++p0.Ad).length,.msl 10 1 0 b2.length,.msl 11 1 0 b15.length]),(11,.flat 9 1 (b15.map D.str))])) [] [2,3] Q (λz16 hm=>?_) (λb15 hm=>?_))
 ·refine aO 3 Q (SX Q Q (aN TK Q Q Q) (aL 4 Q (aV hm (λ(x20,b21)=>([(33,.d (.int .i64 x20))])) (λ(x20,b21)=>([(5,.box 171 [.msl 9 1 0 (([]:List BA)++p0.Ad).length,.msl 10 1 0 b2.length,.msl 11 1 0 b21.length]),(11,.flat 9 1 (b21.map D.str))])) [33] [2,3,31,32] [0,1,2,3,4,5,6,7,8,9,10,11] Q k0 Q Q Q Q Q (λs z22 hm hz22=>?_))));obtain⟨x20,b21⟩:=s;refine WN [2,3,31,32,33] Q Q (bN 5 Q (bL hm Q (λh23 hm=>?_) (λh23 hm=>?_)))
  ·refine aR 5 Q (VE hm λe24 he24 hm=>SX Q Q (bA TK Q Q Q Q he24) (aG 1 Q (cK 12 Q Q oO Q (aL 3 Q (WN [2,3,7,31,32,33] Q Q (aR 1 Q ?_))))));refine SX Q Q (dG Q kQ Q Q (by decide) (by decide) Q) ?_;refine aG 3 Q (SX Q Q (cF [.tmp 40] TK Q Q xM Q Q Q Q Q) (GE hm λg25 hm=>cB (f:=D.str) ([e24.name]:List BA) TK Q Q xM Q Q Q Q Q (λh=>absurd h (zQV _)) Q bZ g25 Q Q ?_));refine SX Q Q (dG Q kQ Q Q (by decide) (by decide) Q) ?_;exact aL 4 Q (WN [2,3,31,32,33] Q Q (aR 1 Q (GE hm λg26 hm=>SX Q Q (bI Q Q Q Q g26) (aE 2 Q (aX [0,1,2,3,4,5,6,7,8,9,10,11] hm Q Q)))))
  refine aM 2 Q (IE hm λv27 hm hz=>?_);rw [hz22 _ hz] at hm;exact WX (bD 1 Q (aT [0,1,2,3,4,5,6,7,8,9,10,11] hm Q Q))
 refine WN [2,3] Q Q (bM 5 Q (WN [2] Q Q (aM 1 Q ?_)));obtain rfl:=OJ hm;exact EndsS.cellR _ TK Q Q Q Q Q (iA (.cons (bQ Q) Q (.cons (bQ Q) Q (.cons (bQ Q) Q .nil))))
theorem zP {p0:BA} {r:Bool} (hm:mU p0=some r):RetN TP 88 [.str p0] (.bool (r)):=by
 refine .unit (aJ (aZ Q) func88 Q ntmps88 Q Q (λwX gX=>?_)) Q;unfold mU at hm;refine WN [0] Q Q (bN 4 Q (bF hm (λ_=>[]) (λ_=>[]) [] [0] Q (λz1 hm hz1=>?_) (λj hm=>?_)))
 ·refine bN 5 Q (aV hm (λi3=>([(3,.d (.int .i64 i3))])) (λi3=>[]) [3] [0] [] Q k0 Q Q Q Q Q (λi3 z4 hm hz4=>WN [0,3] Q Q (bN 8 Q (bL hm Q (λh5 hm=>?_) (λh5 hm=>?_)))))
  ·refine bM 4 Q (aP hm (λletter6=>([(4,.d (.bool (letter6)))])) (λletter6=>[]) [4] [0,3] Q (λz7 hm=>?_) (λletter6 hm=>?_))
   ·refine aO 3 Q (VE hm λe8 he8 hm=>SX Q Q (qJK Q Tryz.underlying9 Q Q he8) (aG 1 Q (SB TK Q (λq9 hq9=>?_))));cases q9
    ·replace hm:=JF hq9 hm;exact aE 7 Q (aT [] hm Q Q)
    replace hm:=JT hq9 hm;exact aG 2 Q (VE hm λe10 he10 hm=>SX Q Q (qJK Q Tryz.underlying9 Q Q he10) (aE 4 Q (aT [] hm Q Q)))
   refine WN [0,3,4] Q Q (aP hm (λdigit11=>([(5,.d (.bool (digit11)))])) (λdigit11=>[]) [5] [0,3,4] Q (λz12 hm=>?_) (λdigit11 hm=>?_))
   ·refine aO 3 Q (VE hm λe13 he13 hm=>SX Q Q (qJK Q Tryz.underlying9 Q Q he13) (aG 1 Q (SB TK Q (λq14 hq14=>?_))));cases q14
    ·replace hm:=JF hq14 hm;exact aG 8 Q (VE hm λe15 he15 hm=>SX Q Q (qJK Q Tryz.underlying9 Q Q he15) (aE 4 Q (aT [] hm Q Q)))
    replace hm:=JT hq14 hm;refine aG 2 Q (VE hm λe16 he16 hm=>SX Q Q (qJK Q Tryz.underlying9 Q Q he16) (aG 2 Q (SB TK Q (λq17 hq17=>?_))));cases q17
    ·replace hm:=JF hq17 hm;exact aG 2 Q (VE hm λe18 he18 hm=>SX Q Q (qJK Q Tryz.underlying9 Q Q he18) (aE 4 Q (aT [] hm Q Q)))
    replace hm:=JT hq17 hm;exact aE 7 Q (aT [] hm Q Q)
   refine WN [0,3,4,5] Q Q ?_;refine cI [(47,.d (.bool (((!(letter6))&&((!(digit11))||(decide (i3=(0:Int))))))))] [47] [0,3] Q ?_ ?_
   ·refine aO 3 Q (SB TK Q (λq19 hq19=>?_));cases q19
    ·refine aE 8 Q ?_;exact⟨[],Q,k0,aW (aI (aK (by first|(simp [hq19];done)|(simp only [hq19];simp))) Q) Q⟩
    refine aG 2 Q (SB TK Q (λq20 hq20=>?_));cases q20
    ·refine aE 5 Q ?_;exact⟨[],Q,k0,aW (aI (aK (by first|(simp [hq19,hq20];done)|(simp only [hq19,hq20];simp))) Q) Q⟩
    refine aE 5 Q ?_;exact⟨[],Q,k0,aW (aI (aK (by first|(simp [hq19,hq20];done)|(simp only [hq19,hq20];simp))) Q) Q⟩
   refine WN [0,3,47] Q Q (bH hm Q (λh21 hm=>?_) (λh21 hm=>?_))
   ·refine aM 7 Q (IE hm λv22 hm hz=>?_);rw [hz4 _ hz] at hm;refine WR (bD 1 Q (IE hm λv23 hm hz=>?_));rw [hz1 _ hz] at hm;exact WR (aS hm Q)
   exact aR 5 Q (GE hm λg24 hm=>SX Q Q (bI Q Q Q Q g24) (aE 2 Q (aX [] hm Q Q)))
  refine aM 2 Q (IE hm λv25 hm hz=>?_);rw [hz4 _ hz] at hm;exact WX (bD 1 Q (aX [] hm Q Q))
 refine WN [0] Q Q (cI [(2,.d (.bool (((decide ((1:Int)<=(p0.size:Int)))&&(decide ((p0.size:Int)<=(12:Int)))))))] [2] [] Q ?_ ?_)
 ·refine aO 4 Q (SB TK Q (λq26 hq26=>?_));cases q26
  ·refine aE 6 Q ?_;exact⟨[],Q,k0,aW (aI (aK (by first|(simp [hq26];done)|(simp only [hq26];simp))) Q) Q⟩
  refine aE 6 Q ?_;exact⟨[],Q,k0,aW (aI (aK (by first|(simp [hq26];done)|(simp only [hq26];simp))) Q) Q⟩
 exact WN [2] Q Q (aM 1 Q (aS hm Q))
theorem sG {p0:(List BA)} {r:Bool} (hm:jF p0=some r):RetN TP 89 [.sl 1 (p0.map D.str)] (.bool (r)):=by
 refine .unit (aJ (aZ Q) func89 Q ntmps89 Q Q (λwX gX=>?_)) Q;unfold jF at hm;refine WN [0] Q Q (bN 4 Q (bF hm (λ_=>[]) (λ_=>[]) [] [] Q (λz1 hm hz1=>?_) (λj hm=>?_)))
 ·refine aO 2 Q (SX Q Q (aN TK Q Q Q) (aL 4 Q (aV hm (λx3=>([(7,.d (.int .i64 x3))])) (λx3=>[]) [7] [0,6] [] Q k0 Q Q Q Q Q (λx3 z4 hm hz4=>WN [0,6,7] Q Q (bN 5 Q (bL hm Q (λh5 hm=>?_) (λh5 hm=>?_)))))))
  ·refine bM 2 Q (bF hm (λ_=>[]) (λ_=>[]) [] [0,6,7] Q (λz6 hm hz6=>?_) (λj hm=>?_))
   ·refine bN 12 Q (aV hm (λx8=>([(11,.d (.int .i64 x8))])) (λx8=>[]) [11] [0,3,6,7,10] [] Q k0 Q Q Q Q Q (λx8 z9 hm hz9=>WN [0,3,6,7,10,11] Q Q (bN 5 Q (bL hm Q (λh10 hm=>?_) (λh10 hm=>?_)))))
    ·refine bM 9 Q (bJ follows ?_);iterate 2 (refine DA [] TK Q ?_)
     refine VE hm λe11 he11 hm=>DX [] Q Q (bA TK Q Q Q Q he11) ?_;iterate 3 (refine DA [] TK Q ?_)
     refine VE hm λe12 he12 hm=>DX [] Q Q (bA TK Q Q Q Q he12) ?_;iterate 2 (refine DA [] TK Q ?_)
     refine DT ?_ (by kernel_rfl);refine aL 2 Q (bL hm Q (λh13 hm=>?_) (λh13 hm=>?_))
     ·refine bM 4 Q (WN [2] Q Q (aM 3 Q (IE hm λv14 hm hz=>?_)));rw [hz9 _ hz] at hm;refine WR (bD 2 Q (IE hm λv15 hm hz=>?_));rw [hz6 _ hz] at hm;refine WR (IE hm λv16 hm hz=>?_);rw [hz4 _ hz] at hm;refine WR (bD 1 Q (IE hm λv17 hm hz=>?_));rw [hz1 _ hz] at hm;exact WR (aS hm Q)
     exact aR 4 Q (GE hm λg18 hm=>SX Q Q (bI Q Q Q Q g18) (aE 2 Q (aX [] hm Q Q)))
    refine aM 2 Q (IE hm λv19 hm hz=>?_);rw [hz9 _ hz] at hm;exact WX (bD 2 Q (aX [] hm Q Q))
   exact WN [0,6,7] Q Q (aR 1 Q (GE hm λg20 hm=>SX Q Q (bI Q Q Q Q g20) (aE 2 Q (aX [] hm Q Q))))
  refine aM 2 Q (IE hm λv21 hm hz=>?_);rw [hz4 _ hz] at hm;exact WX (bD 1 Q (aX [] hm Q Q))
 exact WN [] Q Q (aM 5 Q (aS hm Q))
theorem qIT {p0:Ag} {r:Int} (hm:nT p0=some r):RetN TP 44 [p0.enc] (.int .i64 r):=by
 refine .unit (aJ (aZ Q) func44 Q ntmps44 Q Q (λwX gX=>?_)) Q;unfold nT at hm;refine WN [0] Q Q (aO 1 Q (bR 0 Q Q Q (aL 4 Q ?_)));refine cI [(39,.d (.bool (((decide ((p0.Af.length:Int) < (1:Int)))||((decide ((32:Int) < (p0.Af.length:Int)))||((decide ((p0.Ad.length:Int) < (1:Int)))||((decide ((24:Int) < (p0.Ad.length:Int)))||((decide ((20:Int) < (p0.Ah.length:Int)))||(decide ((24:Int) < (p0.balises.length:Int)))))))))))] [39] [1] Q ?_ ?_
 ·refine aO 3 Q (SX Q Q (aN TK Q Q Q) (aG 1 Q (SB TK Q (λq1 hq1=>?_))));cases q1
  ·refine aG 2 Q (SX Q Q (aN TK Q Q Q) (aG 2 Q (SB TK Q (λq2 hq2=>?_))));cases q2
   ·refine aG 2 Q (SX Q Q (aN TK Q Q Q) (aG 2 Q (SB TK Q (λq3 hq3=>?_))));cases q3
    ·refine aG 2 Q (SX Q Q (aN TK Q Q Q) (aG 2 Q (SB TK Q (λq4 hq4=>?_))));cases q4
     ·refine aG 2 Q (SX Q Q (aN TK Q Q Q) (aG 2 Q (SB TK Q (λq5 hq5=>?_))));cases q5
      ·refine aG 2 Q (SX Q Q (aN TK Q Q Q) (aE 3 Q ?_));exact⟨[0],Q,k0,aW (aI (aK (by first|(simp [hq1,hq2,hq3,hq4,hq5];done)|(simp only [hq1,hq2,hq3,hq4,hq5];simp))) Q) Q⟩
      refine aE 6 Q ?_;exact⟨[0],Q,k0,aW (aI (aK (by first|(simp [hq1,hq2,hq3,hq4,hq5];done)|(simp only [hq1,hq2,hq3,hq4,hq5];simp))) Q) Q⟩
     refine aE 12 Q ?_;exact⟨[0],Q,k0,aW (aI (aK (by first|(simp [hq1,hq2,hq3,hq4];done)|(simp only [hq1,hq2,hq3,hq4];simp))) Q) Q⟩
    refine aE 18 Q ?_;exact⟨[0],Q,k0,aW (aI (aK (by first|(simp [hq1,hq2,hq3];done)|(simp only [hq1,hq2,hq3];simp))) Q) Q⟩
   refine aE 24 Q ?_;exact⟨[0],Q,k0,aW (aI (aK (by first|(simp [hq1,hq2];done)|(simp only [hq1,hq2];simp))) Q) Q⟩
  refine aE 30 Q ?_;exact⟨[0],Q,k0,aW (aI (aK (by first|(simp [hq1];done)|(simp only [hq1];simp))) Q) Q⟩
 refine WN [1,39] Q Q (bH hm Q (λh6 hm=>?_) (λh6 hm=>?_))
 ·exact aM 6 Q (aS hm Q)
 refine aR 4 Q (c_D hm (qIS ·) Q Q Q Q λr7 hm=>cK 1 Q Q qEG Q (cV 1 [some 1,some 1,some 1] Q Q (aL 3 Q (bF hm (λ_=>[]) (λ_=>[]) [] [3] Q (λz8 hm hz8=>?_) (λj hm=>?_)))))
 ·refine cW (cW (cW (cW (qWE follows (DA [] TK Q (DA [0] TK Q (oJ [2] _ (.msl 2 1 0 (([p0.name]:List BA)).length) Q (eH Q) Q (qYZ [.tmp 43] Q Q (TK.sel Q) xM Q Q Q Q Q) ?_)))))));refine DX [] Q Q (dG Q kQ Q Q (by decide) (by decide) Q) ?_;refine DA [1] TK Q (GE hm λg9 hm=>oJ [2,3] _ (.msl 3 1 0 (([p0.name]:List BA)++r7.a0).length) Q (eH Q) Q (tL (f:=D.str) (xs:=([p0.name]:List BA)) r7.a0 Q Q Q TK Q xM Q Q Q Q Q Q bZ g9) ?_);refine DX [] Q Q (dG Q kQ Q Q (by decide) (by decide) Q) ?_;refine DA [1] TK Q (GE hm λg10 hm=>oJ [3,4] _ (.msl 4 1 0 ((([p0.name]:List BA)++r7.a0)++r7.a1).length) Q (eH Q) Q (tL (f:=D.str) (xs:=(([p0.name]:List BA)++r7.a0)) r7.a1 Q Q Q TK Q xM Q Q Q Q Q Q bZ g10) ?_);refine DX [] Q Q (dG Q kQ Q Q (by decide) (by decide) Q) ?_;refine DA [1] TK Q (GE hm λg11 hm=>oJ [4,5] _ (.msl 5 1 0 (((([p0.name]:List BA)++r7.a0)++r7.a1)++r7.a2).length) Q (eH Q) Q (tL (f:=D.str) (xs:=((([p0.name]:List BA)++r7.a0)++r7.a1)) r7.a2 Q Q Q TK Q xM Q Q Q Q Q Q bZ g11) ?_);iterate 2 (refine DA [] TK Q ?_)
  refine DT ?_ (by kernel_rfl);refine aL 2 Q (WN [3,53,54,55] Q Q (bM 1 Q (aV hm (λx13=>([(53,.msl 2 1 0 (((([p0.name]:List BA)++r7.a0)++r7.a1)++r7.a2).length),(55,.d (.int .i64 x13))])) (λx13=>[]) [53,55] [3,54] [0,1,5] Q k0 Q Q Q Q Q (λx13 z14 hm hz14=>WN [3,53,54,55] Q Q (bN 5 Q (bL hm Q (λh15 hm=>?_) (λh15 hm=>?_)))))))
  ·refine aR 5 Q (VE hm λe16 he16 hm=>SX Q Q (mH TK Q Q Q Q he16 Q) (SX Q Q (pL TK Q Q Q Q he16.2 Q) (aG 5 Q (c_N hm (zP ·) Q Q Q Q λr17 hm=>aL 3 Q (bH hm Q (λh18 hm=>?_) (λh18 hm=>?_))))))
   ·refine aM 7 Q (IE hm λv19 hm hz=>?_);rw [hz14 _ hz] at hm;refine WR (bD 1 Q (IE hm λv20 hm hz=>?_));rw [hz8 _ hz] at hm;exact WR (aS hm Q)
   exact aR 4 Q (GE hm λg21 hm=>SX Q Q (bI Q Q Q Q g21) (aE 2 Q (aX [0,1,2] hm Q Q)))
  refine aM 2 Q (IE hm λv22 hm hz=>?_);rw [hz14 _ hz] at hm;exact WX (bD 1 Q (aX [0,1] hm Q Q))
 refine WN [3] Q Q (bM 1 Q (aP hm (λx23=>([(75,.d (.bool (x23)))])) (λx23=>[]) [75] [] Q (λz24 hm=>?_) (λx23 hm=>?_)))
 ·refine aO 1 Q ?_;refine SX Q Q (dG Q kQ Q Q (by decide) (by decide) Q) ?_;refine aG 1 Q (c_N hm (sG ·) Q Q Q Q λr25 hm=>SB TK Q (λq26 hq26=>?_));cases q26
  ·replace hm:=JB hq26 hm;refine SX Q Q (dG Q kQ Q Q (by decide) (by decide) Q) ?_;refine aG 1 Q (c_N hm (sG ·) Q Q Q Q λr27 hm=>aG 1 Q (SB TK Q (λq28 hq28=>?_)));cases q28
   ·replace hm:=JB hq28 hm;refine SX Q Q (dG Q kQ Q Q (by decide) (by decide) Q) ?_;exact aG 1 Q (c_N hm (sG ·) Q Q Q Q λr29 hm=>aE 2 Q (aT [0,1] hm Q Q))
   replace hm:=JA hq28 hm;exact aE 5 Q (aT [0,1] hm Q Q)
  replace hm:=JA hq26 hm;exact aE 10 Q (aT [0,1] hm Q Q)
 refine WN [75] Q Q (bH hm Q (λh30 hm=>?_) (λh30 hm=>?_))
 ·exact aM 6 Q (aS hm Q)
 exact aM 7 Q (aS hm Q)
theorem qIR {p0:Ag} {p1:Aw} {r:Bool} (hm:nR p0 p1=some r):RetN TP 90 [p0.enc,p1.enc] (.bool (r)):=by
 refine .unit (aJ (aZ Q) func90 Q ntmps90 Q Q (λwX gX=>?_)) Q;unfold nR at hm;refine WN [0,1] Q Q (aO 1 Q (bR 0 Q Q Q (bR 1 Q Q Q (aL 4 Q ?_))));refine cI [(55,.d (.bool (((decide (p1.kind < (1:Int)))||((decide ((3:Int) < p1.kind))||((decide (p1.length < (500:Int)))||((decide ((1000000:Int) < p1.length))||((decide (p1.grade < (-50:Int)))||((decide ((50:Int) < p1.grade))||((decide (p1.speed < (100:Int)))||((decide ((10000:Int) < p1.speed))||((decide (p1.As < (0:Int)))||(decide ((p0.Ad.length:Int)<=p1.As))))))))))))))] [55] [3] Q ?_ ?_
 ·refine aO 4 Q (SB TK Q (λq1 hq1=>?_));cases q1
  ·refine aG 4 Q (SB TK Q (λq2 hq2=>?_));cases q2
   ·refine aG 4 Q (SB TK Q (λq3 hq3=>?_));cases q3
    ·refine aG 4 Q (SB TK Q (λq4 hq4=>?_));cases q4
     ·refine aG 4 Q (SB TK Q (λq5 hq5=>?_));cases q5
      ·refine aG 4 Q (SB TK Q (λq6 hq6=>?_));cases q6
       ·refine aG 4 Q (SB TK Q (λq7 hq7=>?_));cases q7
        ·refine aG 4 Q (SB TK Q (λq8 hq8=>?_));cases q8
         ·refine aG 4 Q (SB TK Q (λq9 hq9=>?_));cases q9
          ·refine aG 4 Q (SX Q Q (aN TK Q Q Q) (aE 3 Q ?_));exact⟨[0,1],Q,k0,aW (aI (aK (by first|(simp [hq1,hq2,hq3,hq4,hq5,hq6,hq7,hq8,hq9];done)|(simp only [hq1,hq2,hq3,hq4,hq5,hq6,hq7,hq8,hq9];simp))) Q) Q⟩
          refine aE 8 Q ?_;exact⟨[0,1],Q,k0,aW (aI (aK (by first|(simp [hq1,hq2,hq3,hq4,hq5,hq6,hq7,hq8,hq9];done)|(simp only [hq1,hq2,hq3,hq4,hq5,hq6,hq7,hq8,hq9];simp))) Q) Q⟩
         refine aE 13 Q ?_;exact⟨[0,1],Q,k0,aW (aI (aK (by first|(simp [hq1,hq2,hq3,hq4,hq5,hq6,hq7,hq8];done)|(simp only [hq1,hq2,hq3,hq4,hq5,hq6,hq7,hq8];simp))) Q) Q⟩
        refine aE 18 Q ?_;exact⟨[0,1],Q,k0,aW (aI (aK (by first|(simp [hq1,hq2,hq3,hq4,hq5,hq6,hq7];done)|(simp only [hq1,hq2,hq3,hq4,hq5,hq6,hq7];simp))) Q) Q⟩
       refine aE 23 Q ?_;exact⟨[0,1],Q,k0,aW (aI (aK (by first|(simp [hq1,hq2,hq3,hq4,hq5,hq6];done)|(simp only [hq1,hq2,hq3,hq4,hq5,hq6];simp))) Q) Q⟩
      refine aE 28 Q ?_;exact⟨[0,1],Q,k0,aW (aI (aK (by first|(simp [hq1,hq2,hq3,hq4,hq5];done)|(simp only [hq1,hq2,hq3,hq4,hq5];simp))) Q) Q⟩
     refine aE 33 Q ?_;exact⟨[0,1],Q,k0,aW (aI (aK (by first|(simp [hq1,hq2,hq3,hq4];done)|(simp only [hq1,hq2,hq3,hq4];simp))) Q) Q⟩
    refine aE 38 Q ?_;exact⟨[0,1],Q,k0,aW (aI (aK (by first|(simp [hq1,hq2,hq3];done)|(simp only [hq1,hq2,hq3];simp))) Q) Q⟩
   refine aE 43 Q ?_;exact⟨[0,1],Q,k0,aW (aI (aK (by first|(simp [hq1,hq2];done)|(simp only [hq1,hq2];simp))) Q) Q⟩
  refine aE 48 Q ?_;exact⟨[0,1],Q,k0,aW (aI (aK (by first|(simp [hq1];done)|(simp only [hq1];simp))) Q) Q⟩
 refine WN [3,55] Q Q (bH hm Q (λh10 hm=>?_) (λh10 hm=>?_))
 ·exact aM 6 Q (aS hm Q)
 refine bM 9 Q (bL hm Q (λh11 hm=>?_) (λh11 hm=>?_))
 ·refine cI [(4,.d (.bool (((decide ((100:Int)<=p1.slow))&&(decide (p1.slow<=p1.speed))))))] [4] [] Q ?_ ?_
  ·refine aO 4 Q (SB TK Q (λq12 hq12=>?_));cases q12
   ·refine aE 8 Q ?_;exact⟨[0,1],Q,k0,aW (aI (aK (by first|(simp [hq12];done)|(simp only [hq12];simp))) Q) Q⟩
   refine aE 8 Q ?_;exact⟨[0,1],Q,k0,aW (aI (aK (by first|(simp [hq12];done)|(simp only [hq12];simp))) Q) Q⟩
  exact WN [4] Q Q (aM 2 Q (aS hm Q))
 exact aM 10 Q (aS hm Q)
theorem qEA {p0:Ag} {p1:Int} {r:(List Int)} (hm:kK p0 p1=some r):RetD TP 91 [p0.enc,.int .i64 p1] (.sl 1 (r.map (D.int .i64))):=by
 refine .of (mv:=λ_=>false) (aJ (aZ Q) func91 Q ntmps91 Q Q (λwX gX=>?_));unfold kK at hm;refine WN [0,1] Q Q (aO 1 Q (bR 0 Q Q Q (aG 4 Q (cM (f:=(D.int .i64)) 1 3 1 Q Q Q (aL 2 Q (aP hm (λb1=>([(5,.msl 1 1 0 b1.length)])) (λb1=>([(1,.flat 3 1 (b1.map (D.int .i64)))])) [5] [] Q (λz2 hm=>?_) (λb1 hm=>?_)))))))
 ·refine aO 3 Q (SX Q Q (aN TK Q Q Q) (aL 4 Q (aV hm (λ(x6,b7)=>([(5,.msl 1 1 0 b7.length),(11,.d (.int .i64 x6))])) (λ(x6,b7)=>([(1,.flat 3 1 (b7.map (D.int .i64)))])) [5,11] [1,2,9,10] [0,1] Q k0 Q Q Q Q Q (λs z8 hm hz8=>?_))));obtain⟨x6,b7⟩:=s;refine WN [1,2,5,9,10,11] Q Q (bN 5 Q (bL hm Q (λh9 hm=>?_) (λh9 hm=>?_)))
  ·refine aR 6 Q (VE hm λe10 he10 hm=>SX Q Q (bA TK Q Q Q Q he10) (aG 1 Q (cK 2 Q Q tK Q (aL 4 Q (cI [(30,.d (.bool (((decide (e10.As=p1))&&((decide ((0:Int)<=p1))&&(decide (p1 < (p0.Ad.length:Int))))))))] [30] [1,2,5,6,9,10,11] Q ?_ ?_)))))
   ·refine aO 5 Q (SB TK Q (λq11 hq11=>?_));cases q11
    ·refine aE 11 Q ?_;exact⟨[0,1,2],Q,k0,aW (aI (aK (by first|(simp [hq11];done)|(simp only [hq11];simp))) Q) Q⟩
    refine aG 3 Q (SB TK Q (λq12 hq12=>?_));cases q12
    ·refine aE 7 Q ?_;exact⟨[0,1,2],Q,k0,aW (aI (aK (by first|(simp [hq11,hq12];done)|(simp only [hq11,hq12];simp))) Q) Q⟩
    refine aG 3 Q (SX Q Q (aN TK Q Q Q) (aE 3 Q ?_));exact⟨[0,1,2],Q,k0,aW (aI (aK (by first|(simp [hq11,hq12];done)|(simp only [hq11,hq12];simp))) Q) Q⟩
   refine WN [1,2,5,6,9,10,11,30] Q Q (bH hm Q (λh13 hm=>?_) (λh13 hm=>?_))
   ·exact aR 3 Q (SX Q Q (cF [.tmp 32] TK Q Q dF Q Q Q Q Q) (GE hm λg14 hm=>cB (f:=(D.int .i64)) ([x6]:List Int) TK Q Q dF Q Q Q Q Q (λh=>absurd h (zQV _)) Q bZ g14 Q Q (aG 5 Q (GE hm λg15 hm=>SX Q Q (bI Q Q Q Q g15) (aE 2 Q (aX [0,1] hm Q Q))))))
   exact aR 4 Q (GE hm λg16 hm=>SX Q Q (bI Q Q Q Q g16) (aE 2 Q (aX [0,1] hm Q Q)))
  refine aM 2 Q (IE hm λv17 hm hz=>?_);rw [hz8 _ hz] at hm;exact WX (bD 1 Q (aT [0,1] hm Q Q))
 refine WN [5] Q Q (aM 6 Q ?_);obtain rfl:=OJ hm;exact EndsS.one _ Q (bQ Q) (.refl _)
theorem xX {p0:Int} {r:Int} (hm:jJ p0=some r):RetN TP 145 [.int .i64 p0] (.int .i64 r):=by
 refine .unit (aJ (aZ Q) func145 Q ntmps145 Q Q (λwX gX=>?_)) Q;unfold jJ at hm;refine WN [0] Q Q (bN 15 Q (bL hm Q (λh1 hm=>?_) (λh1 hm=>?_)))
 ·exact aM 7 Q (aS hm Q)
 refine bM 5 Q (bL hm Q (λh2 hm=>?_) (λh2 hm=>?_))
 ·exact aM 7 Q (aS hm Q)
 refine bM 5 Q (bL hm Q (λh3 hm=>?_) (λh3 hm=>?_))
 ·exact aM 7 Q (aS hm Q)
 exact aM 8 Q (aS hm Q)
theorem qG {p0:Ag} {p1:End} {r:Bool} (hm:hJ p0 p1=some r):RetN TP 92 [p0.enc,p1.enc] (.bool (r)):=by
 refine .unit (aJ (aZ Q) func92 Q ntmps92 Q Q (λwX gX=>?_)) Q;unfold hJ at hm;refine WN [0,1] Q Q (aO 1 Q (bR 0 Q Q Q (bR 1 Q Q Q (aL 3 Q (aP hm (λx1=>([(4,.d (.bool (x1)))])) (λx1=>[]) [4] [] Q (λz2 hm=>?_) (λx1 hm=>?_))))))
 ·refine cJ follows ?_;iterate 3 (refine DA [0,1] TK Q ?_)
  refine d_b [0,1] TK Q (λq3 hq3=>?_);cases q3
  ·replace hm:=JF hq3 hm;iterate 25 (refine DA [0,1] TK Q ?_)
   refine DT ?_ (by kernel_rfl);exact aE 2 Q (aT [0,1] hm Q Q)
  replace hm:=JT hq3 hm;iterate 4 (refine DA [0,1] TK Q ?_)
  refine DX [0,1] Q Q (aN TK Q Q Q) ?_;iterate 2 (refine DA [0,1] TK Q ?_)
  refine d_b [0,1] TK Q (λq4 hq4=>?_);cases q4
  ·replace hm:=JF hq4 hm;iterate 17 (refine DA [0,1] TK Q ?_)
   refine DT ?_ (by kernel_rfl);exact aE 2 Q (aT [0,1] hm Q Q)
  replace hm:=JT hq4 hm;iterate 4 (refine DA [0,1] TK Q ?_)
  refine d_b [0,1] TK Q (λq5 hq5=>?_);cases q5
  ·replace hm:=JF hq5 hm;iterate 12 (refine DA [0,1] TK Q ?_)
   refine DT ?_ (by kernel_rfl);exact aE 2 Q (aT [0,1] hm Q Q)
  replace hm:=JT hq5 hm;iterate 6 (refine DA [0,1] TK Q ?_)
  refine VE hm λe6 he6 hm=>DX [0,1] Q Q (bA TK Q Q Q Q he6) ?_;iterate 2 (refine DA [0,1] TK Q ?_)
  refine dK [0,1] hm (xX ·) Q Q Q Q λr7 hm=>?_;iterate 2 (refine DA [0,1] TK Q ?_)
  refine DT ?_ (by kernel_rfl);exact aE 2 Q (aT [0,1] hm Q Q)
 exact WN [4] Q Q (aM 1 Q (aS hm Q))
theorem zO {p0:(List End)} {r:Bool} (hm:mS p0=some r):RetN TP 93 [.sl 2 (p0.map End.enc)] (.bool (r)):=by
 refine .unit (aJ (aZ Q) func93 Q ntmps93 Q Q (λwX gX=>?_)) Q;unfold mS at hm;refine WN [0] Q Q (bN 4 Q (bF hm (λ_=>[]) (λ_=>[]) [] [] Q (λz1 hm hz1=>?_) (λj hm=>?_)))
 ·refine aO 2 Q (SX Q Q (aN TK Q Q Q) (aL 4 Q (aV hm (λx3=>([(7,.d (.int .i64 x3))])) (λx3=>[]) [7] [0,6] [] Q k0 Q Q Q Q Q (λx3 z4 hm hz4=>WN [0,6,7] Q Q (bN 5 Q (bL hm Q (λh5 hm=>?_) (λh5 hm=>?_)))))))
  ·refine bM 2 Q (bF hm (λ_=>[]) (λ_=>[]) [] [0,6,7] Q (λz6 hm hz6=>?_) (λj hm=>?_))
   ·refine bN 12 Q (aV hm (λx8=>([(11,.d (.int .i64 x8))])) (λx8=>[]) [11] [0,3,6,7,10] [] Q k0 Q Q Q Q Q (λx8 z9 hm hz9=>WN [0,3,6,7,10,11] Q Q (bN 5 Q (bL hm Q (λh10 hm=>?_) (λh10 hm=>?_)))))
    ·refine bM 9 Q (bJ follows ?_);iterate 2 (refine DA [] TK Q ?_)
     refine VE hm λe11 he11 hm=>DX [] Q Q (bA TK Q Q Q Q he11) ?_;iterate 3 (refine DA [] TK Q ?_)
     refine VE hm λe12 he12 hm=>DX [] Q Q (bA TK Q Q Q Q he12) (DA [] TK Q (GE hm λg13 hm=>DX [] Q Q (qHP Q Q Q g13.1 g13.2) ?_));refine DT ?_ (by kernel_rfl);refine aL 2 Q (bL hm Q (λh15 hm=>?_) (λh15 hm=>?_))
     ·refine bM 4 Q (WN [2] Q Q (aM 3 Q (IE hm λv16 hm hz=>?_)));rw [hz9 _ hz] at hm;refine WR (bD 2 Q (IE hm λv17 hm hz=>?_));rw [hz6 _ hz] at hm;refine WR (IE hm λv18 hm hz=>?_);rw [hz4 _ hz] at hm;refine WR (bD 1 Q (IE hm λv19 hm hz=>?_));rw [hz1 _ hz] at hm;exact WR (aS hm Q)
     exact aR 4 Q (GE hm λg20 hm=>SX Q Q (bI Q Q Q Q g20) (aE 2 Q (aX [] hm Q Q)))
    refine aM 2 Q (IE hm λv21 hm hz=>?_);rw [hz9 _ hz] at hm;exact WX (bD 2 Q (aX [] hm Q Q))
   exact WN [0,6,7] Q Q (aR 1 Q (GE hm λg22 hm=>SX Q Q (bI Q Q Q Q g22) (aE 2 Q (aX [] hm Q Q))))
  refine aM 2 Q (IE hm λv23 hm hz=>?_);rw [hz4 _ hz] at hm;exact WX (bD 1 Q (aX [] hm Q Q))
 exact WN [] Q Q (aM 5 Q (aS hm Q))
theorem qBW {p0:Ag} {r:Int} (hm:jG p0=some r):RetN TP 45 [p0.enc] (.int .i64 r):=by
 refine .unit (aJ (aZ Q) func45 Q ntmps45 Q Q (λwX gX=>?_)) Q;unfold jG at hm;refine WN [0] Q Q (aO 1 Q (bR 0 Q Q Q (aL 3 Q (bF hm (λ_=>[]) (λ_=>[]) [] [1] Q (λz1 hm hz1=>?_) (λj hm=>?_)))))
 ·refine aO 3 Q (SX Q Q (aN TK Q Q Q) (aL 4 Q (aV hm (λx3=>([(12,.d (.int .i64 x3))])) (λx3=>[]) [12] [1,10,11] [0] Q k0 Q Q Q Q Q (λx3 z4 hm hz4=>WN [1,10,11,12] Q Q (bN 5 Q (bL hm Q (λh5 hm=>?_) (λh5 hm=>?_)))))))
  ·refine aR 5 Q (VE hm λe6 he6 hm=>SX Q Q (bA TK Q Q Q Q he6) (aG 1 Q (cK 1 Q Q tK Q (aG 6 Q (c_N hm (qIR ·) Q Q Q Q λr7 hm=>aL 3 Q (bH hm Q (λh8 hm=>?_) (λh8 hm=>?_)))))))
   ·refine aM 7 Q (IE hm λv9 hm hz=>?_);rw [hz4 _ hz] at hm;refine WR (bD 1 Q (IE hm λv10 hm hz=>?_));rw [hz1 _ hz] at hm;exact WR (aS hm Q)
   exact aR 4 Q (GE hm λg11 hm=>SX Q Q (bI Q Q Q Q g11) (aE 2 Q (aX [0] hm Q Q)))
  refine aM 2 Q (IE hm λv12 hm hz=>?_);rw [hz4 _ hz] at hm;exact WX (bD 1 Q (aX [0] hm Q Q))
 refine WN [1] Q Q (bF hm (λ_=>[]) (λ_=>[]) [] [1] Q (λz13 hm hz13=>?_) (λj hm=>?_))
 ·refine aO 3 Q (SX Q Q (aN TK Q Q Q) (aL 4 Q (aV hm (λx15=>([(24,.d (.int .i64 x15))])) (λx15=>[]) [24] [1,23] [0] Q k0 Q Q Q Q Q (λx15 z16 hm hz16=>WN [1,23,24] Q Q (bN 5 Q (bL hm Q (λh17 hm=>?_) (λh17 hm=>?_)))))))
  ·refine aR 12 Q (c_D hm (qEA ·) Q Q Q Q λr18 hm=>SX Q Q (aN TK Q Q Q) (aL 3 Q (bL hm Q (λh19 hm=>?_) (λh19 hm=>?_))))
   ·refine aM 7 Q (IE hm λv20 hm hz=>?_);rw [hz16 _ hz] at hm;refine WR (bD 1 Q (IE hm λv21 hm hz=>?_));rw [hz13 _ hz] at hm;exact WR (aS hm Q)
   exact aR 4 Q (GE hm λg22 hm=>SX Q Q (bI Q Q Q Q g22) (aE 2 Q (aX [0] hm Q Q)))
  refine aM 2 Q (IE hm λv23 hm hz=>?_);rw [hz16 _ hz] at hm;exact WX (bD 1 Q (aX [0] hm Q Q))
 refine WN [1] Q Q (aR 1 Q (cM (f:=End.enc) 1 147 2 Q Q Q (aL 2 Q (bF hm (λb24=>([(6,.msl 1 2 0 b24.length)])) (λb24=>([(1,.flat 147 2 (b24.map End.enc))])) [6] [] Q (λz25 hm hz25=>?_) (λb24 hm=>?_)))))
 ·refine aO 3 Q (SX Q Q (aN TK Q Q Q) (aL 4 Q (aV hm (λ(x29,b30)=>([(6,.msl 1 2 0 b30.length),(36,.d (.int .i64 x29))])) (λ(x29,b30)=>([(1,.flat 147 2 (b30.map End.enc))])) [6,36] [1,34,35] [0,1] Q k0 Q Q Q Q Q (λs z31 hm hz31=>?_))));obtain⟨x29,b30⟩:=s;refine WN [1,6,34,35,36] Q Q (bN 5 Q (bL hm Q (λh32 hm=>?_) (λh32 hm=>?_)))
  ·refine aR 5 Q (VE hm λe33 he33 hm=>SX Q Q (bA TK Q Q Q Q he33) (aG 1 Q (cK 2 Q Q yY Q (aL 4 Q (aP hm (λx34=>([(58,.d (.bool (x34)))])) (λx34=>[]) [58] [1,6,8,34,35,36] Q (λz35 hm=>?_) (λx34 hm=>?_))))))
   ·refine aO 4 Q (c_N hm (qG ·) Q Q Q Q λr36 hm=>aG 1 Q (SB TK Q (λq37 hq37=>?_)));cases q37
    ·replace hm:=JB hq37 hm;refine aG 3 Q (c_N hm (qG ·) Q Q Q Q λr38 hm=>aG 2 Q (SB TK Q (λq39 hq39=>?_)));cases q39
     ·replace hm:=JB hq39 hm;exact aG 4 Q (GE hm λg40 hm=>SX Q Q (qHP Q Q Q g40.1 g40.2) (aE 2 Q (aT [0,1,2] hm Q Q)))
     replace hm:=JA hq39 hm;exact aE 7 Q (aT [0,1,2] hm Q Q)
    replace hm:=JA hq37 hm;exact aE 14 Q (aT [0,1,2] hm Q Q)
   refine WN [1,6,8,34,35,36,58] Q Q (bH hm Q (λh42 hm=>?_) (λh42 hm=>?_))
   ·refine aM 8 Q (IE hm λv43 hm hz=>?_);rw [hz31 _ hz] at hm;refine WR (bD 1 Q (IE hm λv44 hm hz=>?_));rw [hz25 _ hz] at hm;exact WR (aS hm Q)
   exact aR 8 Q (SX Q Q (cF [.tmp 61,.tmp 63] TK Q Q cR Q Q Q Q Q) (GE hm λg45 hm=>cB (f:=End.enc) ([e33.a,e33.b]:List End) TK Q Q cR Q Q Q Q Q (λh=>absurd h (zQV _)) Q bZ g45 Q Q (aG 5 Q (GE hm λg46 hm=>SX Q Q (bI Q Q Q Q g46) (aE 2 Q (aX [0,1] hm Q Q))))))
  refine aM 2 Q (IE hm λv47 hm hz=>?_);rw [hz31 _ hz] at hm;exact WX (bD 1 Q (aX [0,1] hm Q Q))
 refine WN [6] Q Q (aR 3 Q (BE hm λr48 hr48 hm=>SX Q Q (RN Q Q (SC (bQ Q) SN) (zO hr48)) (aL 2 Q (bH hm Q (λh49 hm=>?_) (λh49 hm=>?_)))))
 ·exact aM 6 Q (aS hm Q)
 exact aM 7 Q (aS hm Q)
theorem qFO {p0:Ag} {p1:End} {r0:End} {r1:Bool} (hm:eA p0 p1=some (r0,r1)):Ret TP 94 [] (λ_=>false) ([p0.enc,p1.enc].map .d) (.tup ([r0.enc,.bool (r1)].map .d)) []:=by
 refine dW (aZ Q) func94 Q ntmps94 Q Q (λwX gX=>?_);unfold eA at hm;refine WN [0,1] Q Q (aO 1 Q (bR 0 Q Q Q (bR 1 Q Q Q (cK 2 Q Q cR Q (aL 3 Q (bF hm (λ_=>[]) (λ_=>[]) [] [4] Q (λz1 hm hz1=>?_) (λj hm=>?_)))))))
 ·refine aO 3 Q (SX Q Q (aN TK Q Q Q) (aL 4 Q (aV hm (λx3=>([(11,.d (.int .i64 x3))])) (λx3=>[]) [11] [3,4,9,10] [0,1,2] Q k0 Q Q Q Q Q (λx3 z4 hm hz4=>WN [3,4,9,10,11] Q Q (bN 5 Q (bL hm Q (λh5 hm=>?_) (λh5 hm=>?_)))))))
  ·refine aR 5 Q (VE hm λe6 he6 hm=>SX Q Q (bA TK Q Q Q Q he6) (aG 1 Q (cK 3 Q Q yY Q (aG 8 Q (GE hm λg7 hm=>SX Q Q (qHP Q Q Q g7.1 g7.2) (aL 2 Q (bL hm Q (λh9 hm=>?_) (λh9 hm=>?_))))))))
   ·refine aM 11 Q (IE hm λv10 hm hz=>?_);rw [hz4 _ hz] at hm;refine WR (bD 1 Q (IE hm λv11 hm hz=>?_));rw [hz1 _ hz] at hm;refine WR ?_;obtain⟨rfl,rfl⟩:=Prod.mk.inj (Option.some.inj hm);exact⟨_,.mk _ (.cons (.agg (TK.lay Q) Q Q Q Q) (.cons (.tmp 5) .nil)) Q,(.cons (.d _) (.refl _) (.cons (.d _) (.refl _) .nil))⟩
   refine aR 6 Q (GE hm λg12 hm=>SX Q Q (qHP Q Q Q g12.1 g12.2) (aL 2 Q (bL hm Q (λh14 hm=>?_) (λh14 hm=>?_))))
   ·refine bM 7 Q (WN [4,5] Q Q (aM 3 Q (IE hm λv15 hm hz=>?_)));rw [hz4 _ hz] at hm;refine WR (bD 1 Q (IE hm λv16 hm hz=>?_));rw [hz1 _ hz] at hm;refine WR ?_;obtain⟨rfl,rfl⟩:=Prod.mk.inj (Option.some.inj hm);exact⟨_,.mk _ (.cons (.agg (TK.lay Q) Q Q Q Q) (.cons (.tmp 5) .nil)) Q,(.cons (.d _) (.refl _) (.cons (.d _) (.refl _) .nil))⟩
   exact aR 4 Q (GE hm λg17 hm=>SX Q Q (bI Q Q Q Q g17) (aE 2 Q (aX [0,1,2] hm Q Q)))
  refine aM 2 Q (IE hm λv18 hm hz=>?_);rw [hz4 _ hz] at hm;exact WX (bD 1 Q (aX [0,1,2] hm Q Q))
 refine WN [4] Q Q (aR 1 Q (SX Q Q (bV Q oI cR Q Q Q Q) (aE 5 Q ?_)));obtain⟨rfl,rfl⟩:=Prod.mk.inj (Option.some.inj hm);exact⟨_,.mk _ (.cons (.agg (TK.lay Q) Q Q Q Q) (.cons (.tmp 5) .nil)) Q,(.cons (.d _) (.refl _) (.cons (.d _) (.refl _) .nil))⟩
theorem jH {p0:Ag} {p1:End} {r0:End} {r1:Bool} (hm:eA p0 p1=some (r0,r1)):RetT TP 94 [p0.enc,p1.enc] [r0.enc,.bool (r1)]:=.of (mv:=λ_=>false) (qFO hm)
theorem qDX {p0:Ag} {r:Int} (hm:kH p0=some r):RetN TP 46 [p0.enc] (.int .i64 r):=by
 refine .unit (aJ (aZ Q) func46 Q ntmps46 Q Q (λwX gX=>?_)) Q;unfold kH at hm;refine WN [0] Q Q (aO 1 Q (bR 0 Q Q Q (aG 4 Q (cM (f:=End.enc) 1 147 2 Q Q Q (aL 2 Q (bF hm (λb1=>([(3,.msl 1 2 0 b1.length)])) (λb1=>([(1,.flat 147 2 (b1.map End.enc))])) [3] [1] Q (λz2 hm hz2=>?_) (λb1 hm=>?_)))))))
 ·refine aO 3 Q (SX Q Q (aN TK Q Q Q) (aL 4 Q (aV hm (λ(x6,b7)=>([(3,.msl 1 2 0 b7.length),(13,.d (.int .i64 x6))])) (λ(x6,b7)=>([(1,.flat 147 2 (b7.map End.enc))])) [3,13] [1,11,12] [0,1] Q k0 Q Q Q Q Q (λs z8 hm hz8=>?_))));obtain⟨x6,b7⟩:=s;refine WN [1,3,11,12,13] Q Q (bN 5 Q (bL hm Q (λh9 hm=>?_) (λh9 hm=>?_)))
  ·refine aR 5 Q (VE hm λe10 he10 hm=>SX Q Q (bA TK Q Q Q Q he10) (aG 1 Q (cK 2 Q Q oO Q (aL 4 Q (aP hm (λx11=>([(31,.d (.bool (x11)))])) (λx11=>[]) [31] [1,3,5,11,12,13] Q (λz12 hm=>?_) (λx11 hm=>?_))))))
   ·refine aO 4 Q (c_N hm (qG ·) Q Q Q Q λr13 hm=>aG 1 Q (SB TK Q (λq14 hq14=>?_)));cases q14
    ·replace hm:=JB hq14 hm;refine aG 4 Q (SB TK Q (λq15 hq15=>?_));cases q15
     ·replace hm:=JF hq15 hm;exact aE 5 Q (aT [0,1,2] hm Q Q)
     replace hm:=JT hq15 hm;exact aE 5 Q (aT [0,1,2] hm Q Q)
    replace hm:=JA hq14 hm;exact aE 10 Q (aT [0,1,2] hm Q Q)
   refine WN [1,3,5,11,12,13,31] Q Q (bH hm Q (λh16 hm=>?_) (λh16 hm=>?_))
   ·refine aM 8 Q (IE hm λv17 hm hz=>?_);rw [hz8 _ hz] at hm;refine WR (bD 1 Q (IE hm λv18 hm hz=>?_));rw [hz2 _ hz] at hm;exact WR (aS hm Q)
   exact aR 6 Q (SX Q Q (cF [.tmp 34] TK Q Q cR Q Q Q Q Q) (GE hm λg19 hm=>cB (f:=End.enc) ([e10.atV]:List End) TK Q Q cR Q Q Q Q Q (λh=>absurd h (zQV _)) Q bZ g19 Q Q (aG 5 Q (GE hm λg20 hm=>SX Q Q (bI Q Q Q Q g20) (aE 2 Q (aX [0,1] hm Q Q))))))
  refine aM 2 Q (IE hm λv21 hm hz=>?_);rw [hz8 _ hz] at hm;exact WX (bD 1 Q (aX [0,1] hm Q Q))
 refine WN [1,3] Q Q (aR 3 Q (BE hm λr22 hr22 hm=>SX Q Q (RN Q Q (SC (bQ Q) SN) (zO hr22)) (aL 2 Q (bH hm Q (λh23 hm=>?_) (λh23 hm=>?_)))))
 ·exact aM 6 Q (aS hm Q)
 refine bM 2 Q (bF hm (λ_=>[]) (λ_=>[]) [] [] Q (λz24 hm hz24=>?_) (λj hm=>?_))
 ·refine bN 7 Q (aV hm (λx26=>([(42,.d (.int .i64 x26))])) (λx26=>[]) [42] [1,40,41] [0,1] Q k0 Q Q Q Q Q (λx26 z27 hm hz27=>WN [1,40,41,42] Q Q (bN 5 Q (bL hm Q (λh28 hm=>?_) (λh28 hm=>?_)))))
  ·refine aR 5 Q (VE hm λe29 he29 hm=>SX Q Q (mH TK Q Q Q Q he29 Q) (SX Q Q (pL TK Q Q Q Q he29.2 Q) (cK 2 Q Q cR Q (aG 6 Q (BE hm λr30 hr30 hm=>?_)))));obtain⟨r31,r32⟩:=r30;refine SX Q Q (cT Q Q Q (jH hr30)) (aG 3 Q (cK 3 Q Q cR Q (aL 4 Q (aP hm (λx33=>([(70,.d (.bool (x33)))])) (λx33=>[]) [70] [1,40,41,42] Q (λz34 hm=>?_) (λx33 hm=>?_)))))
   ·refine cJ follows ?_;iterate 2 (refine DA [0,1,2,3] TK Q ?_)
    refine d_b [0,1,2,3] TK Q (λq35 hq35=>?_);cases q35
    ·replace hm:=JB hq35 hm;iterate 4 (refine DA [0,1,2,3] TK Q ?_)
     refine VE hm λe36 he36 hm=>DX [0,1,2,3] Q Q (bA TK Q Q Q Q he36) ?_;iterate 6 (refine DA [0,1,2,3] TK Q ?_)
     refine VE hm λe37 he37 hm=>DX [0,1,2,3] Q Q (bA TK Q Q Q Q he37) ?_;iterate 4 (refine DA [0,1,2,3] TK Q ?_)
     refine DT ?_ (by kernel_rfl);exact aE 1 Q (aT [0,1,2,3] hm Q Q)
    replace hm:=JA hq35 hm;iterate 16 (refine DA [0,1,2,3] TK Q ?_)
    refine DT ?_ (by kernel_rfl);exact aE 1 Q (aT [0,1,2,3] hm Q Q)
   refine WN [1,40,41,42,70] Q Q (bH hm Q (λh38 hm=>?_) (λh38 hm=>?_))
   ·refine aM 7 Q (IE hm λv39 hm hz=>?_);rw [hz27 _ hz] at hm;refine WR (bD 1 Q (IE hm λv40 hm hz=>?_));rw [hz24 _ hz] at hm;exact WR (aS hm Q)
   exact aR 4 Q (GE hm λg41 hm=>SX Q Q (bI Q Q Q Q g41) (aE 2 Q (aX [0,1] hm Q Q)))
  refine aM 2 Q (IE hm λv42 hm hz=>?_);rw [hz27 _ hz] at hm;exact WX (bD 1 Q (aX [0,1] hm Q Q))
 exact WN [] Q Q (aM 5 Q (aS hm Q))
theorem qDY {p0:(List Int)} {r:Bool} (hm:kI p0=some r):RetN TP 95 [.sl 1 (p0.map (D.int .i64))] (.bool (r)):=by
 refine .unit (aJ (aZ Q) func95 Q ntmps95 Q Q (λwX gX=>?_)) Q;unfold kI at hm;refine WN [0] Q Q (bN 4 Q (bF hm (λ_=>[]) (λ_=>[]) [] [] Q (λz1 hm hz1=>?_) (λj hm=>?_)))
 ·refine aO 2 Q (SX Q Q (aN TK Q Q Q) (aL 4 Q (aV hm (λx3=>([(7,.d (.int .i64 x3))])) (λx3=>[]) [7] [0,6] [] Q k0 Q Q Q Q Q (λx3 z4 hm hz4=>WN [0,6,7] Q Q (bN 5 Q (bL hm Q (λh5 hm=>?_) (λh5 hm=>?_)))))))
  ·refine bM 2 Q (bF hm (λ_=>[]) (λ_=>[]) [] [0,6,7] Q (λz6 hm hz6=>?_) (λj hm=>?_))
   ·refine bN 12 Q (aV hm (λx8=>([(11,.d (.int .i64 x8))])) (λx8=>[]) [11] [0,3,6,7,10] [] Q k0 Q Q Q Q Q (λx8 z9 hm hz9=>WN [0,3,6,7,10,11] Q Q (bN 5 Q (bL hm Q (λh10 hm=>?_) (λh10 hm=>?_)))))
    ·refine bM 9 Q (bJ follows ?_);iterate 2 (refine DA [] TK Q ?_)
     refine VE hm λe11 he11 hm=>DX [] Q Q (bA TK Q Q Q Q he11) ?_;iterate 3 (refine DA [] TK Q ?_)
     refine VE hm λe12 he12 hm=>DX [] Q Q (bA TK Q Q Q Q he12) ?_;iterate 2 (refine DA [] TK Q ?_)
     refine DT ?_ (by kernel_rfl);refine aL 2 Q (bL hm Q (λh13 hm=>?_) (λh13 hm=>?_))
     ·refine bM 4 Q (WN [2] Q Q (aM 3 Q (IE hm λv14 hm hz=>?_)));rw [hz9 _ hz] at hm;refine WR (bD 2 Q (IE hm λv15 hm hz=>?_));rw [hz6 _ hz] at hm;refine WR (IE hm λv16 hm hz=>?_);rw [hz4 _ hz] at hm;refine WR (bD 1 Q (IE hm λv17 hm hz=>?_));rw [hz1 _ hz] at hm;exact WR (aS hm Q)
     exact aR 4 Q (GE hm λg18 hm=>SX Q Q (bI Q Q Q Q g18) (aE 2 Q (aX [] hm Q Q)))
    refine aM 2 Q (IE hm λv19 hm hz=>?_);rw [hz9 _ hz] at hm;exact WX (bD 2 Q (aX [] hm Q Q))
   exact WN [0,6,7] Q Q (aR 1 Q (GE hm λg20 hm=>SX Q Q (bI Q Q Q Q g20) (aE 2 Q (aX [] hm Q Q))))
  refine aM 2 Q (IE hm λv21 hm hz=>?_);rw [hz4 _ hz] at hm;exact WX (bD 1 Q (aX [] hm Q Q))
 exact WN [] Q Q (aM 5 Q (aS hm Q))
theorem qDZ {p0:Ag} {r:Int} (hm:kJ p0=some r):RetN TP 47 [p0.enc] (.int .i64 r):=by
 refine .unit (aJ (aZ Q) func47 Q ntmps47 Q Q (λwX gX=>?_)) Q;unfold kJ at hm;refine WN [0] Q Q (aO 1 Q (bR 0 Q Q Q (aG 4 Q (cM (f:=(D.int .i64)) 1 3 1 Q Q Q (aL 2 Q (bF hm (λb1=>([(3,.msl 1 1 0 b1.length)])) (λb1=>([(1,.flat 3 1 (b1.map (D.int .i64)))])) [3] [] Q (λz2 hm hz2=>?_) (λb1 hm=>?_)))))))
 ·refine aO 3 Q (SX Q Q (aN TK Q Q Q) (aL 4 Q (aV hm (λ(x6,b7)=>([(3,.msl 1 1 0 b7.length),(9,.d (.int .i64 x6))])) (λ(x6,b7)=>([(1,.flat 3 1 (b7.map (D.int .i64)))])) [3,9] [1,7,8] [0,1] Q k0 Q Q Q Q Q (λs z8 hm hz8=>?_))));obtain⟨x6,b7⟩:=s;refine WN [1,3,7,8,9] Q Q (bN 5 Q (bL hm Q (λh9 hm=>?_) (λh9 hm=>?_)))
  ·refine aR 5 Q (VE hm λe10 he10 hm=>SX Q Q (bA TK Q Q Q Q he10) (aG 1 Q (cK 2 Q Q zCW Q (aL 4 Q (aP hm (λx11=>([(50,.d (.bool (x11)))])) (λx11=>[]) [50] [1,3,5,7,8,9] Q (λz12 hm=>?_) (λx11 hm=>?_))))))
   ·refine cJ follows ?_;iterate 3 (refine DA [0,1,2] TK Q ?_)
    refine d_b [0,1,2] TK Q (λq13 hq13=>?_);cases q13
    ·replace hm:=JF hq13 hm;iterate 4 (refine DA [0,1,2] TK Q ?_)
     refine d_b [0,1,2] TK Q (λq14 hq14=>?_);cases q14
     ·replace hm:=JF hq14 hm;iterate 4 (refine DA [0,1,2] TK Q ?_)
      refine d_b [0,1,2] TK Q (λq15 hq15=>?_);cases q15
      ·replace hm:=JF hq15 hm;iterate 4 (refine DA [0,1,2] TK Q ?_)
       refine DX [0,1,2] Q Q (aN TK Q Q Q) ?_;iterate 2 (refine DA [0,1,2] TK Q ?_)
       refine d_b [0,1,2] TK Q (λq16 hq16=>?_);cases q16
       ·replace hm:=JF hq16 hm;iterate 4 (refine DA [0,1,2] TK Q ?_)
        refine d_b [0,1,2] TK Q (λq17 hq17=>?_);cases q17
        ·replace hm:=JF hq17 hm;iterate 6 (refine DA [0,1,2] TK Q ?_)
         refine VE hm λe18 he18 hm=>DX [0,1,2] Q Q (bA TK Q Q Q Q he18) ?_;iterate 4 (refine DA [0,1,2] TK Q ?_)
         refine DT ?_ (by kernel_rfl);exact aE 1 Q (aT [0,1,2] hm Q Q)
        replace hm:=JT hq17 hm;iterate 11 (refine DA [0,1,2] TK Q ?_)
        refine DT ?_ (by kernel_rfl);exact aE 1 Q (aT [0,1,2] hm Q Q)
       replace hm:=JT hq16 hm;iterate 16 (refine DA [0,1,2] TK Q ?_)
       refine DT ?_ (by kernel_rfl);exact aE 1 Q (aT [0,1,2] hm Q Q)
      replace hm:=JT hq15 hm;iterate 24 (refine DA [0,1,2] TK Q ?_)
      refine DT ?_ (by kernel_rfl);exact aE 1 Q (aT [0,1,2] hm Q Q)
     replace hm:=JT hq14 hm;iterate 29 (refine DA [0,1,2] TK Q ?_)
     refine DT ?_ (by kernel_rfl);exact aE 1 Q (aT [0,1,2] hm Q Q)
    replace hm:=JT hq13 hm;iterate 34 (refine DA [0,1,2] TK Q ?_)
    refine DT ?_ (by kernel_rfl);exact aE 1 Q (aT [0,1,2] hm Q Q)
   refine WN [1,3,5,7,8,9,50] Q Q (bH hm Q (λh19 hm=>?_) (λh19 hm=>?_))
   ·refine aM 8 Q (IE hm λv20 hm hz=>?_);rw [hz8 _ hz] at hm;refine WR (bD 1 Q (IE hm λv21 hm hz=>?_));rw [hz2 _ hz] at hm;exact WR (aS hm Q)
   exact aR 6 Q (SX Q Q (cF [.tmp 53] TK Q Q dF Q Q Q Q Q) (GE hm λg22 hm=>cB (f:=(D.int .i64)) ([e10.id]:List Int) TK Q Q dF Q Q Q Q Q (λh=>absurd h (zQV _)) Q bZ g22 Q Q (aG 5 Q (GE hm λg23 hm=>SX Q Q (bI Q Q Q Q g23) (aE 2 Q (aX [0,1] hm Q Q))))))
  refine aM 2 Q (IE hm λv24 hm hz=>?_);rw [hz8 _ hz] at hm;exact WX (bD 1 Q (aX [0,1] hm Q Q))
 refine WN [3] Q Q (aR 3 Q (BE hm λr25 hr25 hm=>SX Q Q (RN Q Q (SC (bQ Q) SN) (qDY hr25)) (aL 2 Q (bH hm Q (λh26 hm=>?_) (λh26 hm=>?_)))))
 ·exact aM 6 Q (aS hm Q)
 exact aM 7 Q (aS hm Q)
theorem sH {p0:Ag} {r:Int} (hm:jI p0=some r):RetN TP 19 [p0.enc] (.int .i64 r):=by
 refine .unit (aJ (aZ Q) func19 Q ntmps19 Q Q (λwX gX=>?_)) Q;unfold jI at hm;refine WN [0] Q Q (aO 1 Q (bR 0 Q Q Q (aG 6 Q (c_N hm (qIT ·) Q Q Q Q λr1 hm=>aL 8 Q (eC hm Q (λh2 hm=>?_) (λh2 hm=>?_))))))
 ·exact aM 7 Q (aS hm Q)
 refine aR 5 Q (c_N hm (qBW ·) Q Q Q Q λr3 hm=>aL 8 Q (eC hm Q (λh4 hm=>?_) (λh4 hm=>?_)))
 ·exact aM 7 Q (aS hm Q)
 refine aR 5 Q (c_N hm (qDX ·) Q Q Q Q λr5 hm=>aL 8 Q (WN [1,5,19] Q Q (eC hm Q (λh6 hm=>?_) (λh6 hm=>?_))))
 ·exact aM 7 Q (aS hm Q)
 exact aR 4 Q (c_N hm (qDZ ·) Q Q Q Q λr7 hm=>aE 4 Q (aS hm Q))
theorem lY {p0:Ag} {p1:Int} {r:Bool} (hm:fX p0 p1=some r):RetN TP 156 [p0.enc,.int .i64 p1] (.bool (r)):=by
 refine .unit (aJ (aZ Q) func156 Q ntmps156 Q Q (λwX gX=>?_)) Q;unfold fX at hm;refine WN [0,1] Q Q (aO 1 Q (bR 0 Q Q Q (aL 3 Q (cI [(4,.d (.bool (((decide ((0:Int)<=p1))&&(decide (p1 < (p0.Af.length:Int)))))))] [4] [] Q ?_ ?_))))
 ·refine aO 3 Q (SB TK Q (λq1 hq1=>?_));cases q1
  ·refine aE 8 Q ?_;exact⟨[0],Q,k0,aW (aI (aK (by first|(simp [hq1];done)|(simp only [hq1];simp))) Q) Q⟩
  refine aG 3 Q (SX Q Q (aN TK Q Q Q) (aE 4 Q ?_));exact⟨[0],Q,k0,aW (aI (aK (by first|(simp [hq1];done)|(simp only [hq1];simp))) Q) Q⟩
 exact WN [4] Q Q (aM 1 Q (aS hm Q))
theorem qLP {p0:Int} {p1:Int} {p2:Int} {r0:Int} {r1:Bool} (hm:dU p0 p1 p2=some (r0,r1)):Ret TP 72 [] (λ_=>false) ([.int .i64 p0,.int .i64 p1,.int .i64 p2].map .d) (.tup ([.int .i64 r0,.bool (r1)].map .d)) []:=by
 refine dW (aZ Q) func72 Q ntmps72 Q Q (λwX gX=>?_);unfold dU at hm;refine WN [0,1,2] Q Q (aO 8 Q (SX Q Q (rd_min Q Q Q Q) (aG 6 Q (SX Q Q (rd_max Q Q Q Q) (aL 4 Q ?_)))));refine cI [(21,.d (.bool (((decide (p0=(1:Int)))||(decide (p0=(3:Int)))))))] [21] [0,8,9] Q ?_ ?_
 ·refine aO 3 Q (SB TK Q (λq1 hq1=>?_));cases q1
  ·refine aE 4 Q ?_;exact⟨[],Q,k0,aW (aI (aK (by first|(simp [hq1];done)|(simp only [hq1];simp))) Q) Q⟩
  refine aE 4 Q ?_;exact⟨[],Q,k0,aW (aI (aK (by first|(simp [hq1];done)|(simp only [hq1];simp))) Q) Q⟩
 refine WN [0,8,9,21] Q Q (bH hm Q (λh2 hm=>?_) (λh2 hm=>?_))
 ·refine cI [(6,.d (.int .i64 (0:Int))),(7,.d (.bool ((bif decide ((min p1 p2)=(0:Int)) then ((decide ((max p1 p2)=(1:Int)))||((decide (p0=(3:Int)))&&((decide ((min p1 p2)=(2:Int)))&&(decide ((max p1 p2)=(3:Int)))))) else ((decide (p0=(3:Int)))&&((decide ((min p1 p2)=(2:Int)))&&(decide ((max p1 p2)=(3:Int)))))))))] [6,7] [] Q ?_ ?_
  ·refine aO 3 Q (SB TK Q (λq3 hq3=>?_));cases q3
   ·refine aG 6 Q (SB TK Q (λq4 hq4=>?_));cases q4
    ·refine aE 11 Q ?_;exact⟨[],Q,k0,aW (aI Q (aI (aK (by first|(simp [hq3,hq4];done)|(simp only [hq3,hq4];simp))) Q)) Q⟩
    refine aG 3 Q (SB TK Q (λq5 hq5=>?_));cases q5
    ·refine aE 7 Q ?_;exact⟨[],Q,k0,aW (aI Q (aI (aK (by first|(simp [hq3,hq4,hq5];done)|(simp only [hq3,hq4,hq5];simp))) Q)) Q⟩
    refine aE 7 Q ?_;exact⟨[],Q,k0,aW (aI Q (aI (aK (by first|(simp [hq3,hq4,hq5];done)|(simp only [hq3,hq4,hq5];simp))) Q)) Q⟩
   refine aG 3 Q (SB TK Q (λq6 hq6=>?_));cases q6
   ·refine aG 2 Q (SB TK Q (λq7 hq7=>?_));cases q7
    ·refine aE 11 Q ?_;exact⟨[],Q,k0,aW (aI Q (aI (aK (by first|(simp [hq3,hq6,hq7];done)|(simp only [hq3,hq6,hq7];simp))) Q)) Q⟩
    refine aG 3 Q (SB TK Q (λq8 hq8=>?_));cases q8
    ·refine aE 7 Q ?_;exact⟨[],Q,k0,aW (aI Q (aI (aK (by first|(simp [hq3,hq6,hq7,hq8];done)|(simp only [hq3,hq6,hq7,hq8];simp))) Q)) Q⟩
    refine aE 7 Q ?_;exact⟨[],Q,k0,aW (aI Q (aI (aK (by first|(simp [hq3,hq6,hq7,hq8];done)|(simp only [hq3,hq6,hq7,hq8];simp))) Q)) Q⟩
   refine aE 14 Q ?_;exact⟨[],Q,k0,aW (aI Q (aI (aK (by first|(simp [hq3,hq6];done)|(simp only [hq3,hq6];simp))) Q)) Q⟩
  refine WN [6,7] Q Q (aM 2 Q ?_);obtain⟨rfl,rfl⟩:=Prod.mk.inj (Option.some.inj hm);exact EndsT.two Q (.d _) (.refl _) (.d _) (.refl _)
 refine bM 3 Q (cI [(49,.d (.bool (((decide (p0=(2:Int)))&&((decide ((min p1 p2)=(0:Int)))&&(decide ((max p1 p2)=(1:Int))))))))] [49] [0,8,9] Q ?_ ?_)
 ·refine aO 3 Q (SB TK Q (λq9 hq9=>?_));cases q9
  ·refine aE 8 Q ?_;exact⟨[],Q,k0,aW (aI (aK (by first|(simp [hq9];done)|(simp only [hq9];simp))) Q) Q⟩
  refine aG 3 Q (SB TK Q (λq10 hq10=>?_));cases q10
  ·refine aE 4 Q ?_;exact⟨[],Q,k0,aW (aI (aK (by first|(simp [hq9,hq10];done)|(simp only [hq9,hq10];simp))) Q) Q⟩
  refine aE 4 Q ?_;exact⟨[],Q,k0,aW (aI (aK (by first|(simp [hq9,hq10];done)|(simp only [hq9,hq10];simp))) Q) Q⟩
 refine WN [0,8,9,49] Q Q (bH hm Q (λh11 hm=>?_) (λh11 hm=>?_))
 ·refine aM 7 Q ?_;obtain⟨rfl,rfl⟩:=Prod.mk.inj (Option.some.inj hm);exact EndsT.two Q (.d _) (.refl _) (.d _) (.refl _)
 refine bM 3 Q (cI [(59,.d (.bool (((decide (p0=(2:Int)))&&((decide ((min p1 p2)=(0:Int)))&&(decide ((max p1 p2)=(2:Int))))))))] [59] [] Q ?_ ?_)
 ·refine aO 3 Q (SB TK Q (λq12 hq12=>?_));cases q12
  ·refine aE 8 Q ?_;exact⟨[],Q,k0,aW (aI (aK (by first|(simp [hq12];done)|(simp only [hq12];simp))) Q) Q⟩
  refine aG 3 Q (SB TK Q (λq13 hq13=>?_));cases q13
  ·refine aE 4 Q ?_;exact⟨[],Q,k0,aW (aI (aK (by first|(simp [hq12,hq13];done)|(simp only [hq12,hq13];simp))) Q) Q⟩
  refine aE 4 Q ?_;exact⟨[],Q,k0,aW (aI (aK (by first|(simp [hq12,hq13];done)|(simp only [hq12,hq13];simp))) Q) Q⟩
 refine WN [59] Q Q (bH hm Q (λh14 hm=>?_) (λh14 hm=>?_))
 ·refine aM 7 Q ?_;obtain⟨rfl,rfl⟩:=Prod.mk.inj (Option.some.inj hm);exact EndsT.two Q (.d _) (.refl _) (.d _) (.refl _)
 refine aM 8 Q ?_;obtain⟨rfl,rfl⟩:=Prod.mk.inj (Option.some.inj hm);exact EndsT.two Q (.d _) (.refl _) (.d _) (.refl _)
theorem jR {p0:Int} {p1:Int} {p2:Int} {r0:Int} {r1:Bool} (hm:dU p0 p1 p2=some (r0,r1)):RetT TP 72 [.int .i64 p0,.int .i64 p1,.int .i64 p2] [.int .i64 r0,.bool (r1)]:=.of (mv:=λ_=>false) (qLP hm)
theorem qLQ {p0:Int} {p1:Int} {r:(List Int)} (hm:mT p0 p1=some r):RetD TP 157 [.int .i64 p0,.int .i64 p1] (.sl 1 (r.map (D.int .i64))):=by
 refine .of (mv:=λ_=>false) (aJ (aZ Q) func157 Q ntmps157 Q Q (λwX gX=>?_));unfold mT at hm;refine WN [0,1] Q Q (aO 5 Q (cM (f:=(D.int .i64)) 0 3 1 Q Q Q (aL 2 Q (aP hm (λb1=>([(5,.msl 0 1 0 b1.length)])) (λb1=>([(0,.flat 3 1 (b1.map (D.int .i64)))])) [5] [] Q (λz2 hm=>?_) (λb1 hm=>?_)))))
 ·refine bN 5 Q (aV hm (λ(side6,b7)=>([(5,.msl 0 1 0 b7.length),(6,.d (.int .i64 side6))])) (λ(side6,b7)=>([(0,.flat 3 1 (b7.map (D.int .i64)))])) [5,6] [0,1] [0] Q k0 Q Q Q Q Q (λs z8 hm hz8=>?_));obtain⟨side6,b7⟩:=s;refine WN [0,1,5,6] Q Q (bN 6 Q (bL hm Q (λh9 hm=>?_) (λh9 hm=>?_)))
  ·refine aR 8 Q (BE hm λr10 hr10 hm=>?_);obtain⟨r11,r12⟩:=r10;refine SX Q Q (cT Q Q Q (jR hr10)) (aL 11 Q (bH hm Q (λh13 hm=>?_) (λh13 hm=>?_)))
   ·exact aR 3 Q (SX Q Q (cF [.tmp 22] TK Q Q dF Q Q Q Q Q) (GE hm λg14 hm=>cB (f:=(D.int .i64)) ([side6]:List Int) TK Q Q dF Q Q Q Q Q (λh=>absurd h (zQV _)) Q bZ g14 Q Q (aL 4 Q (WN [0,1,5,6] Q Q (aR 2 Q (GE hm λg15 hm=>SX Q Q (bI Q Q Q Q g15) (aE 2 Q (aX [0] hm Q Q))))))))
   exact aR 5 Q (GE hm λg16 hm=>SX Q Q (bI Q Q Q Q g16) (aE 2 Q (aX [0] hm Q Q)))
  refine aM 2 Q (IE hm λv17 hm hz=>?_);rw [hz8 _ hz] at hm;exact WX (bD 1 Q (aT [0] hm Q Q))
 refine WN [5] Q Q (aM 6 Q ?_);obtain rfl:=OJ hm;exact EndsS.one _ Q (bQ Q) (.refl _)
theorem sW {p0:Ag} {p1:End} {r:(List An)} (hm:gI p0 p1=some r):RetD TP 104 [p0.enc,p1.enc] (.sl 3 (r.map An.enc)):=by
 refine .of (mv:=λ_=>false) (aJ (aZ Q) func104 Q ntmps104 Q Q (λwX gX=>?_));unfold gI at hm;refine WN [0,1] Q Q (aO 1 Q (bR 0 Q Q Q (bR 1 Q Q Q (aG 8 Q (c_N hm (lY ·) Q Q Q Q λr1 hm=>aL 3 Q (bH hm Q (λh2 hm=>?_) (λh2 hm=>?_)))))))
 ·refine bM 4 Q (uS 4 [some 3] Q (aM 2 Q ?_));obtain rfl:=OJ hm;exact EndsS.one _ Q (.d _) (.refl _)
 refine bM 2 Q (bJ follows ?_);iterate 4 (refine DA [0,1] TK Q ?_)
 refine VE hm λe3 he3 hm=>DX [0,1] Q Q (bA TK Q Q Q Q he3) ?_;iterate 4 (refine DA [0,1] TK Q ?_)
 refine jN [0,1] hm (qLQ ·) Q Q Q Q λr4 hm=>?_;refine DT ?_ (by kernel_rfl);refine aL 3 Q (WN [3,5] Q Q (aR 1 Q (cM (f:=An.enc) 2 106 3 Q Q Q (aL 2 Q (aP hm (λb5=>([(6,.msl 2 3 0 b5.length)])) (λb5=>([(2,.flat 106 3 (b5.map An.enc))])) [6] [] Q (λz6 hm=>?_) (λb5 hm=>?_))))))
 ·refine bN 5 Q (aV hm (λ(i10,b11)=>([(6,.msl 2 3 0 b11.length),(7,.d (.int .i64 i10))])) (λ(i10,b11)=>([(2,.flat 106 3 (b11.map An.enc))])) [6,7] [3,5] [0,1,2] Q k0 Q Q Q Q Q (λs z12 hm hz12=>?_));obtain⟨i10,b11⟩:=s;refine WN [3,5,6,7] Q Q (aO 4 Q (SX Q Q (aN TK Q Q Q) (aL 3 Q (bL hm Q (λh13 hm=>?_) (λh13 hm=>?_)))))
  ·refine bM 4 Q (dC follows ?_);iterate 7 (refine DA [0,1,2] TK Q ?_)
   refine VE hm λe14 he14 hm=>DX [0,1,2] Q Q (bA TK Q Q Q Q he14) (DA [0,1,2] TK Q (DX [0,1,2] Q Q (bV Q qSR fL Q Q Q Q) (DX [0,1,2] Q Q (cF [.tmp 38] TK Q Q fL Q Q Q Q Q) ?_)));refine DT ?_ (by kernel_rfl);exact GE hm λg15 hm=>cB (f:=An.enc) ([(⟨p1.el,p1.side,e14⟩:An)]:List An) TK Q Q fL Q Q Q Q Q (λh=>absurd h (zQV _)) Q bZ g15 Q Q (aL 4 Q (WN [3,5,6,7] Q Q (aR 2 Q (GE hm λg16 hm=>SX Q Q (bI Q Q Q Q g16) (aE 2 Q (aX [0,1,2] hm Q Q))))))
  refine aM 2 Q (IE hm λv17 hm hz=>?_);rw [hz12 _ hz] at hm;exact WX (bD 1 Q (aT [0,1,2] hm Q Q))
 refine WN [6] Q Q (aM 6 Q ?_);obtain rfl:=OJ hm;exact EndsS.one _ Q (bQ Q) (.refl _)
theorem qLN {p0:Ag} {p1:An} {r0:Int} {r1:Bool} (hm:kV p0 p1=some (r0,r1)):Ret TP 158 [] (λ_=>false) ([p0.enc,p1.enc].map .d) (.tup ([.int .i64 r0,.bool (r1)].map .d)) []:=by
 refine dW (aZ Q) func158 Q ntmps158 Q Q (λwX gX=>?_);unfold kV at hm;refine WN [0,1] Q Q (aO 1 Q (bR 0 Q Q Q (bR 1 Q Q Q (aG 9 Q (c_N hm (lY ·) Q Q Q Q λr1 hm=>aL 3 Q (bH hm Q (λh2 hm=>?_) (λh2 hm=>?_)))))))
 ·refine aM 7 Q ?_;obtain⟨rfl,rfl⟩:=Prod.mk.inj (Option.some.inj hm);exact EndsT.two Q (.d _) (.refl _) (.d _) (.refl _)
 refine bM 2 Q (bJ follows ?_);iterate 4 (refine DA [0,1] TK Q ?_)
 refine VE hm λe3 he3 hm=>DX [0,1] Q Q (bA TK Q Q Q Q he3) ?_;iterate 6 (refine DA [0,1] TK Q ?_)
 refine BE hm λr4 hr4 hm=>?_;obtain⟨r5,r6⟩:=r4;refine DX [0,1] Q Q (cT Q Q Q (jR hr4)) ?_;iterate 2 (refine DA [0,1] TK Q ?_)
 refine DT ?_ (by kernel_rfl);refine aL 4 Q (WN [4,5] Q Q (aM 1 Q ?_));obtain⟨rfl,rfl⟩:=Prod.mk.inj (Option.some.inj hm);exact EndsT.two Q (.d _) (.refl _) (.d _) (.refl _)
theorem zM {p0:Ag} {p1:An} {r0:Int} {r1:Bool} (hm:kV p0 p1=some (r0,r1)):RetT TP 158 [p0.enc,p1.enc] [.int .i64 r0,.bool (r1)]:=.of (mv:=λ_=>false) (qLN hm)
theorem qLO {p0:Ag} {p1:An} {r0:End} {r1:Bool} (hm:fH p0 p1=some (r0,r1)):Ret TP 105 [] (λ_=>false) ([p0.enc,p1.enc].map .d) (.tup ([r0.enc,.bool (r1)].map .d)) []:=by
 refine dW (aZ Q) func105 Q ntmps105 Q Q (λwX gX=>?_);unfold fH at hm;refine WN [0,1] Q Q (aO 1 Q (bR 0 Q Q Q (bR 1 Q Q Q (cK 2 Q Q cR Q (aG 9 Q (SX Q Q (bV Q oI cR Q Q Q Q) (BE hm λr1 hr1 hm=>?_)))))));obtain⟨r2,r3⟩:=r1;refine SX Q Q (cT Q Q Q (jH hr1)) (aE 7 Q ?_);obtain⟨rfl,rfl⟩:=Prod.mk.inj (Option.some.inj hm);exact⟨_,.mk _ (.cons (.agg (TK.lay Q) Q Q Q Q) (.cons (.tmp 5) .nil)) Q,(.cons (.d _) (.refl _) (.cons (.d _) (.refl _) .nil))⟩
theorem oS {p0:Ag} {p1:An} {r0:End} {r1:Bool} (hm:fH p0 p1=some (r0,r1)):RetT TP 105 [p0.enc,p1.enc] [r0.enc,.bool (r1)]:=.of (mv:=λ_=>false) (qLO hm)
theorem xW {p0:Ag} {p1:(List An)} {r:Bool} (hm:gT p0 p1=some r):RetN TP 122 [p0.enc,.sl 3 (p1.map An.enc)] (.bool (r)):=by
 refine .unit (aJ (aZ Q) func122 Q ntmps122 Q Q (λwX gX=>?_)) Q;unfold gT at hm;refine WN [0,1] Q Q (aO 1 Q (bR 0 Q Q Q (aL 4 Q ?_)));refine cI [(18,.d (.bool (((decide ((p1.length:Int)=(0:Int)))||(decide ((64:Int) < (p1.length:Int)))))))] [18] [1,2] Q ?_ ?_
 ·refine aO 2 Q (SX Q Q (aN TK Q Q Q) (aG 1 Q (SB TK Q (λq1 hq1=>?_))));cases q1
  ·refine aG 1 Q (SX Q Q (aN TK Q Q Q) (aE 3 Q ?_));exact⟨[0],Q,k0,aW (aI (aK (by first|(simp [hq1];done)|(simp only [hq1];simp))) Q) Q⟩
  refine aE 5 Q ?_;exact⟨[0],Q,k0,aW (aI (aK (by first|(simp [hq1];done)|(simp only [hq1];simp))) Q) Q⟩
 refine WN [1,2,18] Q Q (bH hm Q (λh2 hm=>?_) (λh2 hm=>?_))
 ·exact aM 6 Q (aS hm Q)
 refine bM 2 Q (bF hm (λ_=>[]) (λ_=>[]) [] [] Q (λz3 hm hz3=>?_) (λj hm=>?_))
 ·refine bN 5 Q (aV hm (λi5=>([(5,.d (.int .i64 i5))])) (λi5=>[]) [5] [1,2] [0] Q k0 Q Q Q Q Q (λi5 z6 hm hz6=>WN [1,2,5] Q Q (aO 4 Q (SX Q Q (aN TK Q Q Q) (aL 3 Q (bL hm Q (λh7 hm=>?_) (λh7 hm=>?_)))))))
  ·refine bM 2 Q (bF hm (λ_=>[]) (λ_=>[]) [] [1,2,5] Q (λz8 hm hz8=>?_) (λj hm=>?_))
   ·refine bN 1 Q (bJ follows ?_);iterate 3 (refine DA [0] TK Q ?_)
    refine VE hm λe9 he9 hm=>DX [0] Q Q (bA TK Q Q Q Q he9) (DA [0] TK Q (BE hm λr10 hr10 hm=>?_));obtain⟨r11,r12⟩:=r10;refine DX [0] Q Q (cT Q Q Q (zM hr10)) ?_;iterate 4 (refine DA [0] TK Q ?_)
    refine DT ?_ (by kernel_rfl);refine aL 9 Q (WN [1,2,5,35] Q Q (bH hm Q (λh13 hm=>?_) (λh13 hm=>?_)))
    ·refine aM 7 Q (IE hm λv14 hm hz=>?_);rw [hz8 _ hz] at hm;refine WR (IE hm λv15 hm hz=>?_);rw [hz6 _ hz] at hm;refine WR (bD 1 Q (IE hm λv16 hm hz=>?_));rw [hz3 _ hz] at hm;exact WR (aS hm Q)
    refine bM 2 Q (bF hm (λ_=>[]) (λ_=>[]) [] [1,2,5] Q (λz17 hm hz17=>?_) (λj hm=>?_))
    ·refine bN 5 Q (bL hm Q (λh18 hm=>?_) (λh18 hm=>?_))
     ·refine cW (bJ follows (DA [0] TK Q ?_));iterate 2 (refine DA [] TK Q ?_)
      refine GE hm λg19 hm=>DX [] Q Q (bI Q Q Q Q g19) (VE hm λe20 he20 hm=>DX [] Q Q (bA TK Q Q Q Q he20) (DA [] TK Q (BE hm λr21 hr21 hm=>?_)));obtain⟨r22,r23⟩:=r21;refine DX [] Q Q (cT Q Q Q (oS hr21)) ?_;iterate 3 (refine DA [] TK Q ?_)
      refine oJ [1] _ (.mptr 1 0 0 0) Q (eH Q) Q (lJ Q Q cR Q Q) (qQK 1000032 [1] [(1,.box 147 [.d (.int .i64 r22.el),.d (.int .i64 r22.side)])] (eH Q) Q (uT TK Q Q Q Q Q Q Q Q Q Q) ?_);refine DT ?_ (by kernel_rfl);refine aL 3 Q (aP hm (λx24=>([(69,.d (.bool (x24)))])) (λx24=>[]) [69] [1,2,5] Q (λz25 hm=>?_) (λx24 hm=>?_))
      ·refine cJ follows ?_;iterate 2 (refine DA [0,1] TK Q ?_)
       refine d_b [0,1] TK Q (λq26 hq26=>?_);cases q26
       ·replace hm:=JB hq26 hm;iterate 4 (refine DA [0,1] TK Q ?_)
        refine VE hm λe27 he27 hm=>DX [0,1] Q Q (bA TK Q Q Q Q he27) ?_;iterate 4 (refine DA [0,1] TK Q ?_)
        refine d_b [0,1] TK Q (λq28 hq28=>?_);cases q28
        ·replace hm:=eM hq28 hm;iterate 4 (refine DA [0,1] TK Q ?_)
         refine VE hm λe29 he29 hm=>DX [0,1] Q Q (bA TK Q Q Q Q he29) ?_;iterate 4 (refine DA [0,1] TK Q ?_)
         refine DT ?_ (by kernel_rfl);exact aE 1 Q (aT [0,1] hm Q Q)
        replace hm:=eL hq28 hm;iterate 9 (refine DA [0,1] TK Q ?_)
        refine DT ?_ (by kernel_rfl);exact aE 1 Q (aT [0,1] hm Q Q)
       replace hm:=JA hq26 hm;iterate 19 (refine DA [0,1] TK Q ?_)
       refine DT ?_ (by kernel_rfl);exact aE 1 Q (aT [0,1] hm Q Q)
      refine WN [1,2,5,69] Q Q (bH hm Q (λh30 hm=>?_) (λh30 hm=>?_))
      ·refine aM 5 Q (IE hm λv31 hm hz=>?_);rw [hz17 _ hz] at hm;refine WR (bD 1 Q (IE hm λv32 hm hz=>?_));rw [hz8 _ hz] at hm;refine WR (IE hm λv33 hm hz=>?_);rw [hz6 _ hz] at hm;refine WR (bD 1 Q (IE hm λv34 hm hz=>?_));rw [hz3 _ hz] at hm;exact WR (aS hm Q)
      exact aM 1 Q (aX [0] hm Q Q)
     exact aM 1 Q (aX [0] hm Q Q)
    refine WN [1,2,5] Q Q (bM 5 Q (aV hm (λk36=>([(10,.d (.int .i64 k36))])) (λk36=>[]) [10] [1,2,5] [0] Q k0 Q Q Q Q Q (λk36 z37 hm hz37=>WN [1,2,5,10] Q Q (bN 7 Q (bL hm Q (λh38 hm=>?_) (λh38 hm=>?_))))))
    ·refine bM 4 Q (bJ follows ?_);iterate 2 (refine DA [0] TK Q ?_)
     refine VE hm λe39 he39 hm=>DX [0] Q Q (bA TK Q Q Q Q he39) ?_;iterate 4 (refine DA [0] TK Q ?_)
     refine VE hm λe40 he40 hm=>DX [0] Q Q (bA TK Q Q Q Q he40) ?_;iterate 3 (refine DA [0] TK Q ?_)
     refine DT ?_ (by kernel_rfl);refine aL 2 Q (bL hm Q (λh41 hm=>?_) (λh41 hm=>?_))
     ·refine bM 4 Q (WN [4] Q Q (aM 3 Q (IE hm λv42 hm hz=>?_)));rw [hz37 _ hz] at hm;refine WR (bD 2 Q (IE hm λv43 hm hz=>?_));rw [hz8 _ hz] at hm;refine WR (IE hm λv44 hm hz=>?_);rw [hz6 _ hz] at hm;refine WR (bD 1 Q (IE hm λv45 hm hz=>?_));rw [hz3 _ hz] at hm;exact WR (aS hm Q)
     exact aR 5 Q (GE hm λg46 hm=>SX Q Q (bI Q Q Q Q g46) (aE 2 Q (aX [0] hm Q Q)))
    refine aM 2 Q (IE hm λv47 hm hz=>?_);rw [hz37 _ hz] at hm;exact WX (bD 2 Q (aX [0] hm Q Q))
   exact WN [1,2,5] Q Q (aR 2 Q (GE hm λg48 hm=>SX Q Q (bI Q Q Q Q g48) (aE 2 Q (aX [0] hm Q Q))))
  refine aM 2 Q (IE hm λv49 hm hz=>?_);rw [hz6 _ hz] at hm;exact WX (bD 1 Q (aX [0] hm Q Q))
 exact WN [] Q Q (aM 5 Q (aS hm Q))
theorem fS {p0:Ag} {p1:Int} {r:Int} (hm:dB p0 p1=some r):RetN TP 52 [p0.enc,.int .i64 p1] (.int .i64 r):=by
 refine .unit (aJ (aZ Q) func52 Q ntmps52 Q Q (λwX gX=>?_)) Q;unfold dB at hm;refine WN [0,1] Q Q (aO 1 Q (bR 0 Q Q Q (aL 4 Q ?_)));refine cI [(13,.d (.bool (((decide (p1 < (0:Int)))||(decide ((p0.Af.length:Int)<=p1))))))] [13] [1,2] Q ?_ ?_
 ·refine aO 3 Q (SB TK Q (λq1 hq1=>?_));cases q1
  ·refine aG 3 Q (SX Q Q (aN TK Q Q Q) (aE 3 Q ?_));exact⟨[0],Q,k0,aW (aI (aK (by first|(simp [hq1];done)|(simp only [hq1];simp))) Q) Q⟩
  refine aE 7 Q ?_;exact⟨[0],Q,k0,aW (aI (aK (by first|(simp [hq1];done)|(simp only [hq1];simp))) Q) Q⟩
 refine WN [1,2,13] Q Q (bH hm Q (λh2 hm=>?_) (λh2 hm=>?_))
 ·exact aM 6 Q (aS hm Q)
 exact aR 6 Q (VE hm λe3 he3 hm=>SX Q Q (bA TK Q Q Q Q he3) (aE 6 Q (aS hm Q)))
theorem qOK {p0:(List Int)} {p1:Int} {r:Bool} (hm:sU p0 p1=some r):RetN TP 160 [.sl 1 (p0.map (D.int .i64)),.int .i64 p1] (.bool (r)):=by
 refine .unit (aJ (aZ Q) func160 Q ntmps160 Q Q (λwX gX=>?_)) Q;unfold sU at hm;refine WN [0,1] Q Q (bN 4 Q (bF hm (λ_=>[]) (λ_=>[]) [] [] Q (λz1 hm hz1=>?_) (λj hm=>?_)))
 ·refine bN 5 Q (aV hm (λi3=>([(5,.d (.int .i64 i3))])) (λi3=>[]) [5] [0,1] [] Q k0 Q Q Q Q Q (λi3 z4 hm hz4=>WN [0,1,5] Q Q (aO 4 Q (SX Q Q (aN TK Q Q Q) (aL 3 Q (bL hm Q (λh5 hm=>?_) (λh5 hm=>?_)))))))
  ·refine aR 7 Q (VE hm λe6 he6 hm=>SX Q Q (bA TK Q Q Q Q he6) (aL 5 Q (bL hm Q (λh7 hm=>?_) (λh7 hm=>?_))))
   ·refine aM 7 Q (IE hm λv8 hm hz=>?_);rw [hz4 _ hz] at hm;refine WR (bD 1 Q (IE hm λv9 hm hz=>?_));rw [hz1 _ hz] at hm;exact WR (aS hm Q)
   exact aR 5 Q (GE hm λg10 hm=>SX Q Q (bI Q Q Q Q g10) (aE 2 Q (aX [] hm Q Q)))
  refine aM 2 Q (IE hm λv11 hm hz=>?_);rw [hz4 _ hz] at hm;exact WX (bD 1 Q (aX [] hm Q Q))
 exact WN [] Q Q (aM 5 Q (aS hm Q))
theorem mR {p0:Ag} {p1:(List An)} {r:(List Int)} (hm:fG p0 p1=some r):RetD TP 107 [p0.enc,.sl 3 (p1.map An.enc)] (.sl 1 (r.map (D.int .i64))):=by
 refine .of (mv:=λ_=>false) (aJ (aZ Q) func107 Q ntmps107 Q Q (λwX gX=>?_));unfold fG at hm;refine WN [0,1] Q Q (aO 1 Q (bR 0 Q Q Q (aG 4 Q (cM (f:=(D.int .i64)) 1 3 1 Q Q Q (aL 2 Q (aP hm (λb1=>([(5,.msl 1 1 0 b1.length)])) (λb1=>([(1,.flat 3 1 (b1.map (D.int .i64)))])) [5] [] Q (λz2 hm=>?_) (λb1 hm=>?_)))))))
 ·refine bN 5 Q (aV hm (λ(i6,b7)=>([(5,.msl 1 1 0 b7.length),(6,.d (.int .i64 i6))])) (λ(i6,b7)=>([(1,.flat 3 1 (b7.map (D.int .i64)))])) [5,6] [1,2] [0,1] Q k0 Q Q Q Q Q (λs z8 hm hz8=>?_));obtain⟨i6,b7⟩:=s;refine WN [1,2,5,6] Q Q (aO 4 Q (SX Q Q (aN TK Q Q Q) (aL 3 Q (bL hm Q (λh9 hm=>?_) (λh9 hm=>?_)))))
  ·refine bM 4 Q (aP hm (λx10=>([(34,.d (.bool (x10)))])) (λx10=>[]) [34] [1,2,5,6] Q (λz11 hm=>?_) (λx10 hm=>?_))
   ·refine cJ follows ?_;iterate 3 (refine DA [0,1] TK Q ?_)
    refine VE hm λe12 he12 hm=>DX [0,1] Q Q (bA TK Q Q Q Q he12) ?_;iterate 2 (refine DA [0,1] TK Q ?_)
    refine dK [0,1] hm (lY ·) Q Q Q Q λr13 hm=>d_b [0,1] TK Q (λq14 hq14=>?_);cases q14
    ·replace hm:=JB hq14 hm;iterate 14 (refine DA [0,1] TK Q ?_)
     refine DT ?_ (by kernel_rfl);exact aE 1 Q (aT [0,1] hm Q Q)
    replace hm:=JA hq14 hm;iterate 5 (refine DA [0,1] TK Q ?_)
    refine VE hm λe15 he15 hm=>DX [0,1] Q Q (bA TK Q Q Q Q he15) ?_;iterate 2 (refine DA [0,1] TK Q ?_)
    refine VE hm λe16 he16 hm=>DX [0,1] Q Q (bA TK Q Q Q Q he16) ?_;iterate 2 (refine DA [0,1] TK Q ?_)
    refine BE hm λr17 hr17 hm=>DX [0,1] Q Q (RN Q Q (SC (bQ Q) (tM Q)) (qOK hr17)) ?_;iterate 2 (refine DA [0,1] TK Q ?_)
    refine DT ?_ (by kernel_rfl);exact aE 1 Q (aT [0,1] hm Q Q)
   refine WN [1,2,5,6,34] Q Q (bH hm Q (λh18 hm=>?_) (λh18 hm=>?_))
   ·refine dC follows ?_;iterate 5 (refine DA [0,1] TK Q ?_)
    refine VE hm λe19 he19 hm=>DX [0,1] Q Q (bA TK Q Q Q Q he19) ?_;iterate 2 (refine DA [0,1] TK Q ?_)
    refine VE hm λe20 he20 hm=>DX [0,1] Q Q (bA TK Q Q Q Q he20) ?_;iterate 2 (refine DA [0,1] TK Q ?_)
    refine DX [0,1] Q Q (cF [.tmp 45] TK Q Q dF Q Q Q Q Q) ?_;refine DT ?_ (by kernel_rfl);exact GE hm λg21 hm=>cB (f:=(D.int .i64)) ([e20.As]:List Int) TK Q Q dF Q Q Q Q Q (λh=>absurd h (zQV _)) Q bZ g21 Q Q (aG 6 Q (GE hm λg22 hm=>SX Q Q (bI Q Q Q Q g22) (aE 2 Q (aX [0,1] hm Q Q))))
   exact aR 5 Q (GE hm λg23 hm=>SX Q Q (bI Q Q Q Q g23) (aE 2 Q (aX [0,1] hm Q Q)))
  refine aM 2 Q (IE hm λv24 hm hz=>?_);rw [hz8 _ hz] at hm;exact WX (bD 1 Q (aT [0,1] hm Q Q))
 refine WN [5] Q Q (aM 6 Q ?_);obtain rfl:=OJ hm;exact EndsS.one _ Q (bQ Q) (.refl _)
theorem qLL {p0:Ag} {p1:End} {p2:(List An)} {r:Bool} (hm:qE p0 p1 p2=some r):RetN TP 188 [p0.enc,p1.enc,.sl 3 (p2.map An.enc)] (.bool (r)):=by
 refine .unit (aJ (aZ Q) func188 Q ntmps188 Q Q (λwX gX=>?_)) Q;unfold qE at hm;refine WN [0,1,2] Q Q (aO 1 Q (bR 0 Q Q Q (bR 1 Q Q Q (aL 4 Q (aP hm (λx1=>([(40,.d (.bool (x1)))])) (λx1=>[]) [40] [2,3] Q (λz2 hm=>?_) (λx1 hm=>?_))))))
 ·refine cJ follows (DA [0,1] TK Q (DX [0,1] Q Q (aN TK Q Q Q) (DA [0,1] TK Q (d_b [0,1] TK Q (λq3 hq3=>?_)))));cases q3
  ·replace hm:=JF hq3 hm;refine DA [0,1] TK Q (DX [0,1] Q Q (aN TK Q Q Q) ?_);iterate 2 (refine DA [0,1] TK Q ?_)
   refine d_b [0,1] TK Q (λq4 hq4=>?_);cases q4
   ·replace hm:=JF hq4 hm;refine DA [0,1] TK Q (VE hm λe5 he5 hm=>DX [0,1] Q Q (bA TK Q Q Q Q he5) ?_);iterate 6 (refine DA [0,1] TK Q ?_)
    refine d_b [0,1] TK Q (λq6 hq6=>?_);cases q6
    ·replace hm:=eM hq6 hm;refine DA [0,1] TK Q (VE hm λe7 he7 hm=>DX [0,1] Q Q (bA TK Q Q Q Q he7) ?_);iterate 6 (refine DA [0,1] TK Q ?_)
     refine d_b [0,1] TK Q (λq8 hq8=>?_);cases q8
     ·replace hm:=eM hq8 hm;iterate 2 (refine DA [0,1] TK Q ?_)
      refine dK [0,1] hm (xW ·) Q Q Q Q λr9 hm=>?_;iterate 2 (refine DA [0,1] TK Q ?_)
      refine DT ?_ (by kernel_rfl);exact aE 1 Q (aT [0,1] hm Q Q)
     replace hm:=eL hq8 hm;iterate 5 (refine DA [0,1] TK Q ?_)
     refine DT ?_ (by kernel_rfl);exact aE 1 Q (aT [0,1] hm Q Q)
    replace hm:=eL hq6 hm;iterate 14 (refine DA [0,1] TK Q ?_)
    refine DT ?_ (by kernel_rfl);exact aE 1 Q (aT [0,1] hm Q Q)
   replace hm:=JT hq4 hm;iterate 23 (refine DA [0,1] TK Q ?_)
   refine DT ?_ (by kernel_rfl);exact aE 1 Q (aT [0,1] hm Q Q)
  replace hm:=JT hq3 hm;iterate 28 (refine DA [0,1] TK Q ?_)
  refine DT ?_ (by kernel_rfl);exact aE 1 Q (aT [0,1] hm Q Q)
 refine WN [2,3,40] Q Q (bH hm Q (λh10 hm=>?_) (λh10 hm=>?_))
 ·exact aM 6 Q (aS hm Q)
 refine bM 6 Q (aP hm (λchanges11=>([(7,.d (.int .i64 changes11))])) (λchanges11=>[]) [7] [2,3] Q (λz12 hm=>?_) (λchanges11 hm=>?_))
 ·refine bN 5 Q (aV hm (λ(changes15,i16)=>([(7,.d (.int .i64 changes15)),(8,.d (.int .i64 i16))])) (λ(changes15,i16)=>[]) [7,8] [2,3] [0,1] Q k0 Q Q Q Q Q (λs z17 hm hz17=>?_));obtain⟨changes15,i16⟩:=s;refine WN [2,3,7,8] Q Q (aO 4 Q (SX Q Q (aN TK Q Q Q) (aL 3 Q (bL hm Q (λh18 hm=>?_) (λh18 hm=>?_)))))
  ·refine bM 4 Q (bJ follows ?_);iterate 3 (refine DA [0,1] TK Q ?_)
   refine VE hm λe19 he19 hm=>DX [0,1] Q Q (bA TK Q Q Q Q he19) ?_;iterate 2 (refine DA [0,1] TK Q ?_)
   refine dK [0,1] hm (fS ·) Q Q Q Q λr20 hm=>?_;iterate 3 (refine DA [0,1] TK Q ?_)
   refine GE hm λg21 hm=>DX [0,1] Q Q (bI Q Q Q Q g21) (VE hm λe22 he22 hm=>DX [0,1] Q Q (bA TK Q Q Q Q he22) ?_);iterate 2 (refine DA [0,1] TK Q ?_)
   refine dK [0,1] hm (fS ·) Q Q Q Q λr23 hm=>DA [0,1] TK Q ?_;refine DT ?_ (by kernel_rfl);refine aL 2 Q (WN [2,3,7,8,62] Q Q (eC hm Q (λh24 hm=>?_) (λh24 hm=>?_)))
   ·exact aR 2 Q (GE hm λg25 hm=>SX Q Q (bI Q Q Q Q g25) (aG 6 Q (GE hm λg26 hm=>SX Q Q (bI Q Q Q Q g26) (aE 2 Q (aX [0,1] hm Q Q)))))
   exact aR 5 Q (GE hm λg27 hm=>SX Q Q (bI Q Q Q Q g27) (aE 2 Q (aX [0,1] hm Q Q)))
  refine aM 2 Q (IE hm λv28 hm hz=>?_);rw [hz17 _ hz] at hm;exact WX (bD 1 Q (aT [0,1] hm Q Q))
 exact WN [2,3,7] Q Q (aR 4 Q (c_D hm (mR ·) Q Q Q Q λr29 hm=>SX Q Q (aN TK Q Q Q) (aE 5 Q (aS hm Q))))
theorem qH {p0:Ag} {p1:End} {r:Int} (hm:hO p0 p1=some r):RetN TP 151 [p0.enc,p1.enc] (.int .i64 r):=by
 refine .unit (aJ (aZ Q) func151 Q ntmps151 Q Q (λwX gX=>?_)) Q;unfold hO at hm;refine WN [0,1] Q Q (aO 1 Q (bR 0 Q Q Q (bR 1 Q Q Q (aL 3 Q (bF hm (λ_=>[]) (λ_=>[]) [] [] Q (λz1 hm hz1=>?_) (λj hm=>?_))))))
 ·refine aO 3 Q (SX Q Q (aN TK Q Q Q) (aL 4 Q (aV hm (λx3=>([(10,.d (.int .i64 x3))])) (λx3=>[]) [10] [3,8,9] [0,1] Q k0 Q Q Q Q Q (λx3 z4 hm hz4=>WN [3,8,9,10] Q Q (bN 5 Q (bL hm Q (λh5 hm=>?_) (λh5 hm=>?_)))))))
  ·refine aR 6 Q (VE hm λe6 he6 hm=>SX Q Q (bA TK Q Q Q Q he6) (aG 1 Q (cK 2 Q Q oO Q (aG 8 Q (GE hm λg7 hm=>SX Q Q (qHP Q Q Q g7.1 g7.2) (aL 2 Q (bL hm Q (λh9 hm=>?_) (λh9 hm=>?_))))))))
   ·refine bM 5 Q (WN [4] Q Q (aM 3 Q (IE hm λv10 hm hz=>?_)));rw [hz4 _ hz] at hm;refine WR (bD 1 Q (IE hm λv11 hm hz=>?_));rw [hz1 _ hz] at hm;exact WR (aS hm Q)
   exact aR 4 Q (GE hm λg12 hm=>SX Q Q (bI Q Q Q Q g12) (aE 2 Q (aX [0,1] hm Q Q)))
  refine aM 2 Q (IE hm λv13 hm hz=>?_);rw [hz4 _ hz] at hm;exact WX (bD 1 Q (aX [0,1] hm Q Q))
 exact WN [] Q Q (aM 5 Q (aS hm Q))
theorem qLM {p0:Ag} {p1:An} {r0:Int} {r1:Bool} (hm:jE p0 p1=some (r0,r1)):Ret TP 147 [] (λ_=>false) ([p0.enc,p1.enc].map .d) (.tup ([.int .i64 r0,.bool (r1)].map .d)) []:=by
 refine dW (aZ Q) func147 Q ntmps147 Q Q (λwX gX=>?_);unfold jE at hm;refine WN [0,1] Q Q (aO 1 Q (bR 0 Q Q Q (bR 1 Q Q Q (aG 10 Q (SX Q Q (bV Q oI cR Q Q Q Q) (c_N hm (qH ·) Q Q Q Q λr1 hm=>aG 6 Q (BE hm λr2 hr2 hm=>?_)))))));obtain⟨r3,r4⟩:=r2;refine SX Q Q (cT Q Q Q (oS hr2)) (aG 3 Q (cK 2 Q Q cR Q (aL 4 Q (WN [6,8] Q Q ?_))));refine cI [(4,.d (.int .i64 r1)),(5,.d (.bool (((decide ((0:Int)<=r1))||(!(r4))))))] [4,5] [] Q ?_ ?_
 ·refine aO 4 Q (SB TK Q (λq5 hq5=>?_));cases q5
  ·refine aE 6 Q ?_;exact⟨[0,1,2],Q,k0,aW (aI Q (aI (aK (by first|(simp [hq5];done)|(simp only [hq5];simp))) Q)) Q⟩
  refine aE 6 Q ?_;exact⟨[0,1,2],Q,k0,aW (aI Q (aI (aK (by first|(simp [hq5];done)|(simp only [hq5];simp))) Q)) Q⟩
 refine WN [4,5] Q Q (aM 1 Q ?_);obtain⟨rfl,rfl⟩:=Prod.mk.inj (Option.some.inj hm);exact EndsT.two Q (.d _) (.refl _) (.d _) (.refl _)
theorem tY {p0:Ag} {p1:An} {r0:Int} {r1:Bool} (hm:jE p0 p1=some (r0,r1)):RetT TP 147 [p0.enc,p1.enc] [.int .i64 r0,.bool (r1)]:=.of (mv:=λ_=>false) (qLM hm)
theorem tX {p0:Ag} {p1:Int} {p2:Int} {r:BA} (hm:kS p0 p1 p2=some r):RetN TP 148 [p0.enc,.int .i64 p1,.int .i64 p2] (.str r):=by
 refine .unit (aJ (aZ Q) func148 Q ntmps148 Q Q (λwX gX=>?_)) Q;unfold kS at hm;refine WN [0,1,2] Q Q (aO 1 Q (bR 0 Q Q Q (aL 9 Q (bL hm Q (λh1 hm=>?_) (λh1 hm=>?_)))))
 ·exact aR 4 Q (VE hm λe2 he2 hm=>SX Q Q (bA TK Q Q Q Q he2) (aG 2 Q (GE hm λg3 hm=>SX Q Q (qJL Q Q Q g3) (aE 5 Q (aS hm Q)))))
 refine bM 2 Q (bJ follows ?_);iterate 3 (refine DA [0] TK Q ?_)
 refine VE hm λe4 he4 hm=>DX [0] Q Q (bA TK Q Q Q Q he4) ?_;iterate 2 (refine DA [0] TK Q ?_)
 refine GE hm λg5 hm=>DX [0] Q Q (qJL Q Q Q g5) ?_;iterate 3 (refine DA [0] TK Q ?_)
 refine VE hm λe6 he6 hm=>DX [0] Q Q (bA TK Q Q Q Q he6) ?_;iterate 2 (refine DA [0] TK Q ?_)
 refine GE hm λg7 hm=>DX [0] Q Q (qJL Q Q Q g7) ?_;refine DT ?_ (by kernel_rfl);exact aL 3 Q (WN [6] Q Q (aM 1 Q (aS hm Q)))
theorem qFM {p0:(List Aa)} {p1:Aa} {r:(List Aa)} (hm:lX p0 p1=some r):RetD TP 159 [.sl 2 (p0.map Aa.enc),p1.enc] (.sl 2 (r.map Aa.enc)):=by
 refine .of (mv:=λ_=>false) (aJ (aZ Q) func159 Q ntmps159 Q Q (λwX gX=>?_));unfold lX at hm;refine WN [0,1] Q Q (aO 1 Q (bR 0 Q Q Q (aG 4 Q (cM (f:=Aa.enc) 1 126 2 Q Q Q (aL 6 Q (aP hm (λ(i1,b2)=>([(5,.msl 1 2 0 b2.length),(6,.d (.int .i64 i1))])) (λ(i1,b2)=>([(1,.flat 126 2 (b2.map Aa.enc))])) [5,6] [0,3] Q (λz3 hm=>?_) (λj hm=>?_)))))))
 ·refine bN 1 Q (aV hm (λ(i7,b8)=>([(5,.msl 1 2 0 b8.length),(6,.d (.int .i64 i7))])) (λ(i7,b8)=>([(1,.flat 126 2 (b8.map Aa.enc))])) [5,6] [0,3] [0,1] Q k0 Q Q Q Q Q (λs z9 hm hz9=>?_));obtain⟨i7,b8⟩:=s;refine WN [0,3,5,6] Q Q (bN 1 Q (aP hm (λx10=>([(40,.d (.bool (x10)))])) (λx10=>[]) [40] [0,3,5,6] Q (λz11 hm=>?_) (λx10 hm=>?_)))
  ·refine cJ follows ?_;iterate 2 (refine DA [0,1] TK Q ?_)
   refine DX [0,1] Q Q (aN TK Q Q Q) (DA [0,1] TK Q (d_b [0,1] TK Q (λq12 hq12=>?_)));cases q12
   ·replace hm:=JF hq12 hm;iterate 29 (refine DA [0,1] TK Q ?_)
    refine DT ?_ (by kernel_rfl);exact aE 1 Q (aT [0,1] hm Q Q)
   replace hm:=JT hq12 hm;iterate 2 (refine DA [0,1] TK Q ?_)
   refine VE hm λe13 he13 hm=>DX [0,1] Q Q (bA TK Q Q Q Q he13) ?_;iterate 5 (refine DA [0,1] TK Q ?_)
   refine d_b [0,1] TK Q (λq14 hq14=>?_);cases q14
   ·replace hm:=JF hq14 hm;iterate 2 (refine DA [0,1] TK Q ?_)
    refine VE hm λe15 he15 hm=>DX [0,1] Q Q (bA TK Q Q Q Q he15) ?_;iterate 5 (refine DA [0,1] TK Q ?_)
    refine d_b [0,1] TK Q (λq16 hq16=>?_);cases q16
    ·replace hm:=JF hq16 hm;iterate 11 (refine DA [0,1] TK Q ?_)
     refine DT ?_ (by kernel_rfl);exact aE 1 Q (aT [0,1] hm Q Q)
    replace hm:=JT hq16 hm;iterate 2 (refine DA [0,1] TK Q ?_)
    refine VE hm λe17 he17 hm=>DX [0,1] Q Q (bA TK Q Q Q Q he17) ?_;iterate 8 (refine DA [0,1] TK Q ?_)
    refine DT ?_ (by kernel_rfl);exact aE 1 Q (aT [0,1] hm Q Q)
   replace hm:=JT hq14 hm;iterate 20 (refine DA [0,1] TK Q ?_)
   refine DT ?_ (by kernel_rfl);exact aE 1 Q (aT [0,1] hm Q Q)
  refine WN [0,3,5,6,40] Q Q (bH hm Q (λh18 hm=>?_) (λh18 hm=>?_))
  ·exact aR 7 Q (VE hm λe19 he19 hm=>SX Q Q (bA TK Q Q Q Q he19) (aG 1 Q (SX Q Q (cF [.tmp 45] TK Q Q bX Q Q Q Q Q) (GE hm λg20 hm=>cB (f:=Aa.enc) ([e19]:List Aa) TK Q Q bX Q Q Q Q Q (λh=>absurd h (zQV _)) Q bZ g20 Q Q (aG 5 Q (GE hm λg21 hm=>SX Q Q (bI Q Q Q Q g21) (aE 3 Q (aX [0,1] hm Q Q))))))))
  refine aM 2 Q (IE hm λv22 hm hz=>?_);rw [hz9 _ hz] at hm;exact WX (bD 1 Q (aT [0,1] hm Q Q))
 obtain⟨i1,b2⟩:=j;refine WN [0,3,5,6] Q Q (aP hm (λb23=>([(5,.msl 1 2 0 b23.length)])) (λb23=>([(1,.flat 126 2 (b23.map Aa.enc))])) [5] [0,6] Q (λz24 hm=>?_) (λb23 hm=>?_))
 ·refine aP hm (λx25=>([(61,.d (.bool (x25)))])) (λx25=>[]) [61] [0,3,5,6] Q (λz26 hm=>?_) (λx25 hm=>?_)
  ·refine cJ follows ?_;iterate 2 (refine DA [0,1] TK Q ?_)
   refine DX [0,1] Q Q (aN TK Q Q Q) (DA [0,1] TK Q (d_b [0,1] TK Q (λq27 hq27=>?_)));cases q27
   ·replace hm:=JF hq27 hm;iterate 2 (refine DA [0,1] TK Q ?_)
    refine VE hm λe28 he28 hm=>DX [0,1] Q Q (bA TK Q Q Q Q he28) ?_;iterate 2 (refine DA [0,1] TK Q ?_)
    refine GE hm λg29 hm=>DX [0,1] Q Q (yV Q Q Q g29.1 g29.2) (DA [0,1] TK Q ?_);refine DT ?_ (by kernel_rfl);exact aE 1 Q (aT [0,1] hm Q Q)
   replace hm:=JT hq27 hm;iterate 7 (refine DA [0,1] TK Q ?_)
   refine DT ?_ (by kernel_rfl);exact aE 1 Q (aT [0,1] hm Q Q)
  refine WN [0,3,5,6,61] Q Q (bH hm Q (λh31 hm=>?_) (λh31 hm=>?_))
  ·exact aO 3 Q (SX Q Q (cF [.tmp 63] TK Q Q bX Q Q Q Q Q) (GE hm λg32 hm=>cB (f:=Aa.enc) ([p1]:List Aa) TK Q Q bX Q Q Q Q Q (λh=>absurd h (zQV _)) Q bZ g32 Q Q (aE 2 Q (aT [0,1] hm Q Q))))
  exact zAA 1 Q (aT [0,1] hm Q Q)
 refine WN [0,5,6] Q Q (aR 4 Q (GE hm λg33 hm=>SX Q Q (yZ TK Q Q Q Q Q g33) (GE hm λg34 hm=>cB (f:=Aa.enc) (sub p0 i1 (p0.length:Int)) TK Q Q bX Q Q Q Q Q (λh=>absurd h (zQV _)) Q bZ g34 Q Q (aE 9 Q ?_))));obtain rfl:=OJ hm;exact EndsS.one _ Q (bQ Q) (.refl _)
theorem sV {p0:Ag} {p1:(List An)} {r:(List Aa)} (hm:gH p0 p1=some r):RetD TP 106 [p0.enc,.sl 3 (p1.map An.enc)] (.sl 2 (r.map Aa.enc)):=by
 refine .of (mv:=λ_=>false) (aJ (aZ Q) func106 Q ntmps106 Q Q (λwX gX=>?_));unfold gH at hm;refine WN [0,1] Q Q (aO 1 Q (bR 0 Q Q Q (aL 7 Q (uS 5 [some 2] Q (aP hm (λout1=>([(5,.d (.sl 2 (out1.map Aa.enc)))])) (λout1=>[]) [5] [] Q (λz2 hm=>?_) (λout1 hm=>?_))))))
 ·refine bN 5 Q (aV hm (λ(out5,i6)=>([(5,.d (.sl 2 (out5.map Aa.enc))),(6,.d (.int .i64 i6))])) (λ(out5,i6)=>[]) [5,6] [1,2] [0] Q k0 Q Q Q Q Q (λs z7 hm hz7=>?_));obtain⟨out5,i6⟩:=s;refine WN [1,2,5,6] Q Q (aO 4 Q (SX Q Q (aN TK Q Q Q) (aL 3 Q (bL hm Q (λh8 hm=>?_) (λh8 hm=>?_)))))
  ·refine bM 4 Q (bJ follows ?_);iterate 3 (refine DA [0] TK Q ?_)
   refine VE hm λe9 he9 hm=>DX [0] Q Q (bA TK Q Q Q Q he9) (DA [0] TK Q (BE hm λr10 hr10 hm=>?_));obtain⟨r11,r12⟩:=r10;refine DX [0] Q Q (cT Q Q Q (zM hr10)) ?_;iterate 4 (refine DA [0] TK Q ?_)
   refine DT ?_ (by kernel_rfl);refine aL 3 Q (cI [(28,.d (.bool ((r12&&(!(decide (r11=(0:Int))))))))] [28] [1,2,5,6,7] Q ?_ ?_)
   ·refine aO 2 Q (SB TK Q (λq13 hq13=>?_));cases q13
    ·refine aE 4 Q ?_;exact⟨[0],Q,k0,aW (aI (aK (by first|(simp [hq13];done)|(simp only [hq13];simp))) Q) Q⟩
    refine aE 4 Q ?_;exact⟨[0],Q,k0,aW (aI (aK (by first|(simp [hq13];done)|(simp only [hq13];simp))) Q) Q⟩
   refine WN [1,2,5,6,7,28] Q Q (bH hm Q (λh14 hm=>?_) (λh14 hm=>?_))
   ·exact aR 4 Q (VE hm λe15 he15 hm=>SX Q Q (bA TK Q Q Q Q he15) (aG 3 Q (SX Q Q (bV Q qL bX Q Q Q Q) (c_D hm (qFM ·) Q Q Q Q λr16 hm=>aG 6 Q (GE hm λg17 hm=>SX Q Q (bI Q Q Q Q g17) (aE 2 Q (aX [0] hm Q Q)))))))
   exact aR 5 Q (GE hm λg18 hm=>SX Q Q (bI Q Q Q Q g18) (aE 2 Q (aX [0] hm Q Q)))
  refine aM 2 Q (IE hm λv19 hm hz=>?_);rw [hz7 _ hz] at hm;exact WX (bD 1 Q (aT [0] hm Q Q))
 refine WN [5] Q Q (aM 6 Q ?_);obtain rfl:=OJ hm;exact EndsS.one _ Q (.d _) (.refl _)
theorem qF {p0:Ag} {p1:(List An)} {r:Int} (hm:gZ p0 p1=some r):RetN TP 102 [p0.enc,.sl 3 (p1.map An.enc)] (.int .i64 r):=by
 refine .unit (aJ (aZ Q) func102 Q ntmps102 Q Q (λwX gX=>?_)) Q;unfold gZ at hm;refine WN [0,1] Q Q (aO 1 Q (bR 0 Q Q Q (aL 7 Q (aP hm (λsum1=>([(5,.d (.int .i64 sum1))])) (λsum1=>[]) [5] [] Q (λz2 hm=>?_) (λsum1 hm=>?_)))))
 ·refine bN 5 Q (aV hm (λ(sum5,i6)=>([(5,.d (.int .i64 sum5)),(6,.d (.int .i64 i6))])) (λ(sum5,i6)=>[]) [5,6] [1,2] [0] Q k0 Q Q Q Q Q (λs z7 hm hz7=>?_));obtain⟨sum5,i6⟩:=s;refine WN [1,2,5,6] Q Q (aO 4 Q (SX Q Q (aN TK Q Q Q) (aL 3 Q (bL hm Q (λh8 hm=>?_) (λh8 hm=>?_)))))
  ·refine bM 4 Q (bJ follows ?_);iterate 3 (refine DA [0] TK Q ?_)
   refine VE hm λe9 he9 hm=>DX [0] Q Q (bA TK Q Q Q Q he9) ?_;iterate 2 (refine DA [0] TK Q ?_)
   refine dK [0] hm (lY ·) Q Q Q Q λr10 hm=>?_;refine DT ?_ (by kernel_rfl);refine aL 2 Q (bH hm Q (λh11 hm=>?_) (λh11 hm=>?_))
   ·refine dC follows ?_;iterate 5 (refine DA [0] TK Q ?_)
    refine VE hm λe12 he12 hm=>DX [0] Q Q (bA TK Q Q Q Q he12) ?_;iterate 2 (refine DA [0] TK Q ?_)
    refine VE hm λe13 he13 hm=>DX [0] Q Q (bA TK Q Q Q Q he13) ?_;iterate 2 (refine DA [0] TK Q ?_)
    refine GE hm λg14 hm=>DX [0] Q Q (bI Q Q Q Q g14) ?_;refine DT ?_ (by kernel_rfl);exact aL 4 Q (WN [1,2,5,6] Q Q (aR 2 Q (GE hm λg15 hm=>SX Q Q (bI Q Q Q Q g15) (aE 2 Q (aX [0] hm Q Q)))))
   exact aR 5 Q (GE hm λg16 hm=>SX Q Q (bI Q Q Q Q g16) (aE 2 Q (aX [0] hm Q Q)))
  refine aM 2 Q (IE hm λv17 hm hz=>?_);rw [hz7 _ hz] at hm;exact WX (bD 1 Q (aT [0] hm Q Q))
 exact WN [5] Q Q (aM 6 Q (aS hm Q))
theorem qDV {p0:Int} {r:BA} (hm:kF p0=some r):RetN TP 149 [.int .i64 p0] (.str r):=by
 refine .unit (aJ (aZ Q) func149 Q ntmps149 Q Q (λwX gX=>?_)) Q;unfold kF at hm;refine WN [0] Q Q (bN 8 Q (aP hm (λs1=>([(3,.d (.str s1))])) (λs1=>[]) [3] [] Q (λz2 hm=>?_) (λs1 hm=>?_)))
 ·refine bN 1 Q (aV hm (λ(n5,s6)=>([(0,.d (.int .i64 n5)),(3,.d (.str s6))])) (λ(n5,s6)=>[]) [0,3] [] [] Q k0 Q Q Q Q Q (λs z7 hm hz7=>?_));obtain⟨n5,s6⟩:=s;refine WN [0,3] Q Q (bN 6 Q (bL hm Q (λh8 hm=>?_) (λh8 hm=>?_)))
  ·refine aR 5 Q (GE hm λg9 hm=>SX Q Q (zGJ Q Q Q (zFU g9)) (GE hm λg10 hm=>SX Q Q (bI Q Q Q Q g10) (SX Q Q (zDA Q Tryz.underlying3 Tryz.underlying5 Q) (SX Q Q (cF [.tmp 9] TK Q Q zero5 Q Q Q Q Q) (SX Q Q (x_bstr (xs:=([(IntKind.u8.wrap ((48:Int)+(n5.tmod (10:Int))))]:List Int)) Q Tryz.underlying265 Tryz.underlying5 Tryz.underlying9 Q) (aG 1 Q (GE hm λg11 hm=>SX Q Q (qJL Q Q Q g11) (aG 5 Q (GE hm λg12 hm=>SX Q Q (zGJ Q Q Q (zFV g12)) ?_)))))))));exact aE 3 Q (aX [] hm Q Q)
  refine aM 2 Q (IE hm λv13 hm hz=>?_);rw [hz7 _ hz] at hm;exact WX (bD 1 Q (aT [] hm Q Q))
 exact WN [3] Q Q (aM 6 Q (aS hm Q))
theorem uQ:∀ (fu:Nat) {p0:Bp} {p1:Ag} {p2:End} {p3:End} {p4:(List An)} {r:Bp} (hm:cZ fu p0 p1 p2 p3 p4=some r),Ret TP 146 [.box 235 [.msl 1 1 0 p0.l.length],.flat 77 1 (p0.l.map (λ(l:List An)=>D.sl 3 (l.map An.enc)))] (λj=>Nat.beq j 1) [.mptr 0 0 0 0,.d (p1.enc),.d (p2.enc),.d (p3.enc),.d (.sl 3 (p4.map An.enc))] (.tup []) [.box 235 [.msl 1 1 0 r.l.length],.flat 77 1 (r.l.map (λ(l:List An)=>D.sl 3 (l.map An.enc)))]:=by
 intro fu
 induction fu with
 | zero=>
  intro p0 p1 p2 p3 p4 r hm;unfold cZ at hm;cases hm
 | succ fu ih=>
  intro p0 p1 p2 p3 p4 r hm;refine iC (aZ Q) func146 Q ntmps146 Q Q (λwX gX=>?_);unfold cZ at hm;refine WN [0,1,2,3,4] Q Q (aO 1 Q (bR 2 Q Q Q (bR 3 Q Q Q (bR 4 Q Q Q (aL 2 Q (WN [0,4,6,7,8] Q Q (aR 3 Q (c_D hm (sW ·) Q Q Q Q λr1 hm=>aL 8 Q (aV hm (λ(i5,b6)=>([(11,.d (.int .i64 i5))])) (λ(i5,b6)=>([(0,.box 235 [.msl 1 1 0 b6.length]),(1,.flat 77 1 (b6.map (λ(l:List An)=>D.sl 3 (l.map An.enc))))])) [11] [0,4,6,7,10] [0,1,2,3] Q (kB Q) Q Q Q Q Q (λs z7 hm hz7=>?_))))))))));obtain⟨i5,b6⟩:=s;refine WN [0,4,6,7,10,11] Q Q (aO 4 Q (SX Q Q (aN TK Q Q Q) (aL 3 Q (bL hm Q (λh8 hm=>?_) (λh8 hm=>?_)))))
  ·refine aR 5 Q (cM (f:=An.enc) 4 106 3 Q Q Q (aL 2 Q (WN [0,4,6,7,10,11,12] Q Q (aR 3 Q (GE hm λg9 hm=>?_)))));refine cB (f:=An.enc) p4 TK Q Q fL Q Q Q Q Q (λh=>absurd (show 4 < 2 from h) (by decide)) Q bZ g9 Q Q ?_;refine aL 3 Q (WN [0,4,6,7,10,11,12] Q Q (aR 4 Q (VE hm λe10 he10 hm=>SX Q Q (bA TK Q Q Q Q he10) (aG 1 Q (SX Q Q (cF [.tmp 33] TK Q Q fL Q Q Q Q Q) (GE hm λg11 hm=>?_))))));refine cB (f:=An.enc) ([e10]:List An) TK Q Q fL Q Q Q Q Q (λh=>absurd (show 4 < 2 from h) (by decide)) Q bZ g11 Q Q ?_;refine aL 3 Q (WN [0,4,6,7,10,11,12] Q Q (aR 5 Q (BE hm λr12 hr12 hm=>SX Q Q (RN Q Q (SC (.d _) (SC (.d _) (SC (bQ Q) SN))) (qLL hr12)) (aL 3 Q (bH hm Q (λh13 hm=>?_) (λh13 hm=>?_))))))
   ·exact aR 6 Q (GE hm λg14 hm=>SX Q Q (bI Q Q Q Q g14) (aE 2 Q (e_l [0,1,2,3] hm Q (kB Q) Q)))
   refine bM 2 Q (bJ follows ?_);iterate 3 (refine DA [0,1,2,3,4] TK Q ?_)
   refine VE hm λe15 he15 hm=>DX [0,1,2,3,4] Q Q (bA TK Q Q Q Q he15) (DA [0,1,2,3,4] TK Q (BE hm λr16 hr16 hm=>?_));obtain⟨r17,r18⟩:=r16;refine DX [0,1,2,3,4] Q Q (cT Q Q Q (tY hr16)) ?_;iterate 4 (refine DA [0,1,2,3,4] TK Q ?_)
   refine DT ?_ (by kernel_rfl);refine aL 3 Q (WN [0,4,6,7,10,11,12,14] Q Q (bM 5 Q (bH hm Q (λh19 hm=>?_) (λh19 hm=>?_))))
   ·refine qNC 12 4 [0,4,6,7,10,11,50] Q Q Q Q Q (by simp) Q Q ?_;exact aR 7 Q (SX Q Q (cF [.tmp 56] TK Q Q qYV Q Q Q Q Q) (GE hm λg20 hm=>cB (f:=(λ(l:List An)=>D.sl 3 (l.map An.enc))) ([((([]:List An)++p4)++([e10]:List An))]:List (List An)) TK Q Q qYV Q Q Q Q Q (λ_=>Q) Q bZ g20 Q Q (aL 5 Q (WN [0,4,6,7,10,11] Q Q (aR 6 Q (GE hm λg21 hm=>SX Q Q (bI Q Q Q Q g21) (aE 2 Q (e_l [0,1,2,3] hm Q (kB Q) Q))))))))
   refine bM 2 Q (cW (bJ follows (DA [2] TK Q ?_)));iterate 2 (refine DA [] TK Q ?_)
   refine VE hm λe22 he22 hm=>DX [] Q Q (bA TK Q Q Q Q he22) (DA [] TK Q (BE hm λr23 hr23 hm=>?_));obtain⟨r24,r25⟩:=r23;refine DX [] Q Q (cT Q Q Q (oS hr23)) ?_;iterate 3 (refine DA [] TK Q ?_)
   refine oJ [5] _ (.mptr 5 0 0 0) Q (eH Q) Q (lJ Q Q cR Q Q) (qQK 1000012 [5] [(5,.box 147 [.d (.int .i64 r24.el),.d (.int .i64 r24.side)])] (eH Q) Q (uT TK Q Q Q Q Q Q Q Q Q Q) ?_);refine DT ?_ (by kernel_rfl);refine aL 3 Q (WN [0,4,6,7,10,11,12,15] Q Q ?_);refine qNC 12 4 [0,4,6,7,10,11,15] Q Q Q Q Q (by simp) Q Q ?_;refine aR 6 Q (BE hm λr26 hr26 hm=>?_);refine qKX [0,1] (λj=>Nat.beq j 1) Q Q Q (by decide) Q Q Q Q (ih hr26) Q Q Q ?_;exact aL 3 Q (WN [0,4,6,7,10,11] Q Q (aR 2 Q (GE hm λg27 hm=>SX Q Q (bI Q Q Q Q g27) (aE 2 Q (e_l [0,1,2,3] hm Q (kB Q) Q)))))
  refine aM 2 Q (IE hm λv28 hm hz=>?_);rw [hz7 _ hz] at hm;refine WX (bD 1 Q ?_);obtain rfl:=OJ hm;exact⟨_,[0,1],res Q,by decide,(kB Q),Q,Q⟩
theorem vH {p0:Bp} {p1:Ag} {p2:End} {p3:End} {p4:(List An)} {r:Bp} (hm:kT p0 p1 p2 p3 p4=some r):Ret TP 146 [.box 235 [.msl 1 1 0 p0.l.length],.flat 77 1 (p0.l.map (λ(l:List An)=>D.sl 3 (l.map An.enc)))] (λj=>Nat.beq j 1) [.mptr 0 0 0 0,.d (p1.enc),.d (p2.enc),.d (p3.enc),.d (.sl 3 (p4.map An.enc))] (.tup []) [.box 235 [.msl 1 1 0 r.l.length],.flat 77 1 (r.l.map (λ(l:List An)=>D.sl 3 (l.map An.enc)))]:=uQ lR hm
theorem qLK {p0:Ag} {p1:Int} {r:(List Ai)} (hm:qD p0 p1=some r):RetD TP 96 [p0.enc,.int .i64 p1] (.sl 14 (r.map Ai.enc)):=by
 refine .of (mv:=λ_=>false) (aJ (aZ Q) func96 Q ntmps96 Q Q (λwX gX=>?_));unfold qD at hm;refine WN [0,1] Q Q (aO 1 Q (bR 0 Q Q Q (aL 4 Q ?_)));refine cI [(26,.d (.bool (((decide (p1 < (0:Int)))||(decide ((p0.Ah.length:Int)<=p1))))))] [26] [1,2] Q ?_ ?_
 ·refine aO 3 Q (SB TK Q (λq1 hq1=>?_));cases q1
  ·refine aG 3 Q (SX Q Q (aN TK Q Q Q) (aE 3 Q ?_));exact⟨[0],Q,k0,aW (aI (aK (by first|(simp [hq1];done)|(simp only [hq1];simp))) Q) Q⟩
  refine aE 7 Q ?_;exact⟨[0],Q,k0,aW (aI (aK (by first|(simp [hq1];done)|(simp only [hq1];simp))) Q) Q⟩
 refine WN [1,2,26] Q Q (bH hm Q (λh2 hm=>?_) (λh2 hm=>?_))
 ·refine bM 4 Q (uS 4 [some 14] Q (aM 2 Q ?_));obtain rfl:=OJ hm;exact EndsS.one _ Q (.d _) (.refl _)
 refine bM 2 Q (cW (bJ follows (DA [0] TK Q (DA [] TK Q (DA [0] TK Q (DA [] TK Q (VE hm λe3 he3 hm=>DX [] Q Q (bA TK Q Q Q Q he3) ?_)))))));iterate 2 (refine DA [] TK Q ?_)
 refine BE hm λr4 hr4 hm=>?_;obtain⟨r5,r6⟩:=r4;refine DX [] Q Q (cT Q Q Q (jH hr4)) ?_;iterate 3 (refine DA [] TK Q ?_)
 refine oJ [1] _ (.mptr 1 0 0 0) Q (eH Q) Q (lJ Q Q cR Q Q) (qQK 1000002 [1] [(1,.box 147 [.d (.int .i64 r5.el),.d (.int .i64 r5.side)])] (eH Q) Q (uT TK Q Q Q Q Q Q Q Q Q Q) ?_);refine DT ?_ (by kernel_rfl);refine aL 9 Q (bH hm Q (λh7 hm=>?_) (λh7 hm=>?_))
 ·refine bM 4 Q (uS 4 [some 14] Q (WN [4] Q Q (aM 2 Q ?_)));obtain rfl:=OJ hm;exact EndsS.one _ Q (.d _) (.refl _)
 refine bM 2 Q (WN [1,2,5] Q Q (aR 1 Q (SX Q Q (nW Q plc235 zCT Q Q Q Q) (bR 2 Q Q Q (aL 3 Q (c_upB (f:=(λ(l:List An)=>D.sl 3 (l.map An.enc))) 2 0 3 77 1 Q Q Q (aR 5 Q (BE hm λr8 hr8 hm=>?_))))))));refine qZS [2,3] (λj=>Nat.beq j 1) Q Q Q (by decide) Q Q Q Q (vH hr8) (.cons (.refl _) (.cons (.refl _) (.cons (.refl _) (.cons (.refl _) (.cons (.nilD _) .nil))))) Q Q Q ?_;refine aG 3 Q (cM (f:=Ai.enc) 4 113 14 Q Q Q (aL 2 Q (WN [1,2,7,8] Q Q (aP hm (λb9=>([(8,.msl 4 14 0 b9.length)])) (λb9=>([(4,.flat 113 14 (b9.map Ai.enc))])) [8] [] Q (λz10 hm=>?_) (λb9 hm=>?_)))))
 ·refine bN 5 Q (aV hm (λ(i14,b15)=>([(8,.msl 4 14 0 b15.length),(9,.d (.int .i64 i14))])) (λ(i14,b15)=>([(4,.flat 113 14 (b15.map Ai.enc))])) [8,9] [1,2,7] [0,1,2,3,4] Q k0 Q Q Q Q Q (λs z16 hm hz16=>?_));obtain⟨i14,b15⟩:=s;refine WN [1,2,7,8,9] Q Q (bN 11 Q (bL hm Q (λh17 hm=>?_) (λh17 hm=>?_)))
  ·refine bM 2 Q (aP hm (λb18=>([(8,.msl 4 14 0 b18.length)])) (λb18=>([(4,.flat 113 14 (b18.map Ai.enc))])) [8] [1,2,7,9] Q (λz19 hm=>?_) (λb18 hm=>?_))
   ·refine aO 7 Q (VE hm λe20 he20 hm=>SX Q Q (mH TK Q Q Q Q he20 Q) (SX Q Q (pL TK Q Q Q Q he20.2 Q) (aL 3 Q (bJ follows ?_))));iterate 3 (refine DA [0,1,2,3,4] TK Q ?_)
    refine DX [0,1,2,3,4] Q Q (aN TK Q Q Q) (GE hm λg21 hm=>DX [0,1,2,3,4] Q Q (bI Q Q Q Q g21) (VE hm λe22 he22 hm=>DX [0,1,2,3,4] Q Q (bA TK Q Q Q Q he22) (DA [0,1,2,3,4] TK Q (BE hm λr23 hr23 hm=>?_))));obtain⟨r24,r25⟩:=r23;refine DX [0,1,2,3,4] Q Q (cT Q Q Q (tY hr23)) ?_;iterate 4 (refine DA [0,1,2,3,4] TK Q ?_)
    refine DT ?_ (by kernel_rfl);refine aL 3 Q (WN [1,2,7,8,9,10,11] Q Q (cW (bJ follows (DA [0] TK Q ?_))));iterate 2 (refine DA [] TK Q ?_)
    refine dK [] hm (tX ·) Q Q Q Q λr26 hm=>?_;iterate 3 (refine DA [] TK Q ?_)
    refine DA [0] TK Q (DA [] TK Q (jN [] hm (sV ·) Q Q Q Q λr27 hm=>DA [0] TK Q (DA [] TK Q (jN [] hm (mR ·) Q Q Q Q λr28 hm=>DA [0] TK Q (DA [] TK Q (dK [] hm (qF ·) Q Q Q Q λr29 hm=>DX [] Q Q (bV Q zAF dY Q Q Q Q) (oJ [5] _ (.mptr 5 0 0 0) Q (eH Q) Q (lJ Q Q dY Q Q) ?_)))))));refine DT ?_ (by kernel_rfl);refine aG 1 Q (cV 5 [none,none,none,none,none,none,none,none,some 3,some 2,some 1,some 2,some 1,some 2] Q Q (aL 2 Q (WN [1,2,7,8,9,11,13] Q Q (bJ follows ?_))));iterate 4 (refine DA [0,1,2,3,4,5] TK Q ?_)
    refine VE hm λe30 he30 hm=>DX [0,1,2,3,4,5] Q Q (bA TK Q Q Q Q he30) ?_;iterate 3 (refine DA [0,1,2,3,4,5] TK Q ?_)
    refine dK [0,1,2,3,4,5] hm (fS ·) Q Q Q Q λr31 hm=>DA [0,1,2,3,4,5] TK Q ?_;refine DT ?_ (by kernel_rfl);refine aL 3 Q (WN [1,2,7,8,9,11,13] Q Q (bM 4 Q (aP hm (λbefore32=>([(14,.d (.int .i64 before32))])) (λbefore32=>[]) [14] [1,2,7,8,9,13] Q (λz33 hm=>?_) (λbefore32 hm=>?_))))
    ·refine bN 5 Q (aV hm (λ(before36,k37)=>([(14,.d (.int .i64 before36)),(15,.d (.int .i64 k37))])) (λ(before36,k37)=>[]) [14,15] [1,2,7,8,9,11,13] [0,1,2,3,4,5] Q k0 Q Q Q Q Q (λs z38 hm hz38=>?_));obtain⟨before36,k37⟩:=s;refine WN [1,2,7,8,9,11,13,14,15] Q Q (bN 7 Q (bL hm Q (λh39 hm=>?_) (λh39 hm=>?_)))
     ·refine bM 4 Q (bJ follows ?_);iterate 6 (refine DA [0,1,2,3,4,5] TK Q ?_)
      refine VE hm λe40 he40 hm=>DX [0,1,2,3,4,5] Q Q (mH TK Q Q Q Q he40 Q) (DX [0,1,2,3,4,5] Q Q (pL TK Q Q Q Q he40.2 Q) ?_);iterate 5 (refine DA [0,1,2,3,4,5] TK Q ?_)
      refine VE hm λe41 he41 hm=>DX [0,1,2,3,4,5] Q Q (mH TK Q Q Q Q he41 Q) (DX [0,1,2,3,4,5] Q Q (pL TK Q Q Q Q he41.2 Q) (DX [0,1,2,3,4,5] Q Q (aN TK Q Q Q) (GE hm λg42 hm=>DX [0,1,2,3,4,5] Q Q (bI Q Q Q Q g42) (VE hm λe43 he43 hm=>DX [0,1,2,3,4,5] Q Q (bA TK Q Q Q Q he43) (DA [0,1,2,3,4,5] TK Q (BE hm λr44 hr44 hm=>?_))))));obtain⟨r45,r46⟩:=r44;refine DX [0,1,2,3,4,5] Q Q (cT Q Q Q (tY hr44)) ?_;iterate 4 (refine DA [0,1,2,3,4,5] TK Q ?_)
      refine DT ?_ (by kernel_rfl);refine aL 3 Q (WN [1,2,7,8,9,11,13,14,15,16] Q Q (bJ follows ?_));iterate 3 (refine DA [0,1,2,3,4,5] TK Q ?_)
      refine dK [0,1,2,3,4,5] hm (tX ·) Q Q Q Q λr47 hm=>?_;iterate 3 (refine DA [0,1,2,3,4,5] TK Q ?_)
      refine dK [0,1,2,3,4,5] hm (tX ·) Q Q Q Q λr48 hm=>DA [0,1,2,3,4,5] TK Q ?_;refine DT ?_ (by kernel_rfl);refine aL 2 Q (bL hm Q (λh49 hm=>?_) (λh49 hm=>?_))
      ·exact aR 2 Q (GE hm λg50 hm=>SX Q Q (bI Q Q Q Q g50) (aG 6 Q (GE hm λg51 hm=>SX Q Q (bI Q Q Q Q g51) (aE 2 Q (aX [0,1,2,3,4,5] hm Q Q)))))
      exact aR 5 Q (GE hm λg52 hm=>SX Q Q (bI Q Q Q Q g52) (aE 2 Q (aX [0,1,2,3,4,5] hm Q Q)))
     refine aM 2 Q (IE hm λv53 hm hz=>?_);rw [hz38 _ hz] at hm;exact WX (bD 1 Q (aT [0,1,2,3,4,5] hm Q Q))
    refine WN [1,2,7,8,9,13,14] Q Q (aP hm (λc54=>[]) (λc54=>([(5,.box 113 [.d (.str c54),.d (.int .i64 p1),.d (.int .i64 r24),.d (.sl 3 (e20.map An.enc)),.d (.sl 2 (r27.map Aa.enc)),.d (.sl 1 (r28.map (D.int .i64))),.d (.int .i64 r31),.d (.int .i64 r29),.d (.sl 3 (([]:List An).map An.enc)),.d (.sl 2 (([]:List Aa).map Aa.enc)),.d (.sl 1 (([]:List Int).map (D.int .i64))),.d (.sl 2 (([]:List Aa).map Aa.enc)),.d (.sl 1 (([]:List Int).map (D.int .i64))),.d (.sl 2 (([]:List End).map End.enc))])])) [] [1,2,7,8,9,13] Q (λz55 hm=>?_) (λc54 hm=>?_))
    ·refine bN 5 Q (bL hm Q (λh56 hm=>?_) (λh56 hm=>?_))
     ·refine dC follows ?_;iterate 2 (refine DA [0,1,2,3,4,5] TK Q ?_)
      refine GE hm λg57 hm=>DX [0,1,2,3,4,5] Q Q (qJL Q Q Q g57) (DA [0,1,2,3,4,5] TK Q (dK [0,1,2,3,4,5] hm (qDV ·) Q Q Q Q λr58 hm=>GE hm λg59 hm=>DX [0,1,2,3,4,5] Q Q (qJL Q Q Q g59) (DA [0,1,2,3,4,5] TK Q ?_)));refine DT ?_ (by kernel_rfl);exact aE 2 Q (aT [0,1,2,3,4,5] hm Q Q)
     exact aM 1 Q (aT [0,1,2,3,4,5] hm Q Q)
    exact WN [1,2,7,8,9,13] Q Q (aR 3 Q (SX Q Q (cF [.tmp 150] TK Q Q dY Q Q Q Q Q) (GE hm λg60 hm=>cB (f:=Ai.enc) ([(⟨c54,p1,r24,e20,r27,r28,r31,r29,([]:List An),([]:List Aa),([]:List Int),([]:List Aa),([]:List Int),([]:List End)⟩:Ai)]:List Ai) TK Q Q dY Q Q Q Q Q (λh=>absurd h (zQV _)) Q bZ g60 Q Q (aE 3 Q (aT [0,1,2,3,4] hm Q Q)))))
   exact WN [1,2,7,8,9] Q Q (aR 2 Q (GE hm λg61 hm=>SX Q Q (bI Q Q Q Q g61) (aE 2 Q (aX [0,1,2,3,4] hm Q Q))))
  refine aM 2 Q (IE hm λv62 hm hz=>?_);rw [hz16 _ hz] at hm;exact WX (bD 1 Q (aT [0,1,2,3,4] hm Q Q))
 refine WN [8] Q Q (aM 6 Q ?_);obtain rfl:=OJ hm;exact EndsS.one _ Q (bQ Q) (.refl _)
theorem qOJ {p0:Ag} {r0:(List Ai)} {r1:Int} (hm:sT p0=some (r0,r1)):RetT TP 48 [p0.enc] [.sl 14 (r0.map Ai.enc),.int .i64 r1]:=by
 refine .of (mv:=λ_=>false) (dW (aZ Q) func48 Q ntmps48 Q Q (λwX gX=>?_));unfold sT at hm;refine WN [0] Q Q (aO 1 Q (bR 0 Q Q Q (aG 6 Q (c_N hm (sH ·) Q Q Q Q λr1 hm=>aL 9 Q (eC hm Q (λh2 hm=>?_) (λh2 hm=>?_))))))
 ·refine bM 6 Q (uS 2 [some 14] Q (aM 2 Q ?_));obtain⟨rfl,rfl⟩:=Prod.mk.inj (Option.some.inj hm);exact EndsT.two Q (.d _) (.refl _) (.d _) (.refl _)
 refine aR 3 Q (cM (f:=Ai.enc) 1 113 14 Q Q Q (aL 2 Q (aP hm (λb3=>([(5,.msl 1 14 0 b3.length)])) (λb3=>([(1,.flat 113 14 (b3.map Ai.enc))])) [5] [] Q (λz4 hm=>?_) (λb3 hm=>?_))))
 ·refine bN 5 Q (aV hm (λ(i8,b9)=>([(5,.msl 1 14 0 b9.length),(6,.d (.int .i64 i8))])) (λ(i8,b9)=>([(1,.flat 113 14 (b9.map Ai.enc))])) [5,6] [1] [0,1] Q k0 Q Q Q Q Q (λs z10 hm hz10=>?_));obtain⟨i8,b9⟩:=s;refine WN [1,5,6] Q Q (aO 5 Q (SX Q Q (aN TK Q Q Q) (aL 3 Q (bL hm Q (λh11 hm=>?_) (λh11 hm=>?_)))))
  ·exact aR 8 Q (c_D hm (qLK ·) Q Q Q Q λr12 hm=>GE hm λg13 hm=>cB (f:=Ai.enc) r12 TK Q Q dY Q Q Q Q Q (λh=>absurd h (zQV _)) Q bZ g13 Q Q (aG 6 Q (GE hm λg14 hm=>SX Q Q (bI Q Q Q Q g14) (aE 2 Q (aX [0,1] hm Q Q)))))
  refine aM 2 Q (IE hm λv15 hm hz=>?_);rw [hz10 _ hz] at hm;exact WX (bD 1 Q (aT [0,1] hm Q Q))
 refine WN [5] Q Q (bM 7 Q (bL hm Q (λh16 hm=>?_) (λh16 hm=>?_)))
 ·refine bM 5 Q (uS 2 [some 14] Q (aM 2 Q ?_));obtain⟨rfl,rfl⟩:=Prod.mk.inj (Option.some.inj hm);exact EndsT.two Q (.d _) (.refl _) (.d _) (.refl _)
 refine aM 9 Q ?_;obtain⟨rfl,rfl⟩:=Prod.mk.inj (Option.some.inj hm);exact EndsT.two Q (bQ Q) (.refl _) (.d _) (.refl _)
theorem qFN {p0:Ag} {r:(List Int)} (hm:mA p0=some r):RetD TP 49 [p0.enc] (.sl 1 (r.map (D.int .i64))):=by
 refine .of (mv:=λ_=>false) (aJ (aZ Q) func49 Q ntmps49 Q Q (λwX gX=>?_));unfold mA at hm;refine WN [0] Q Q (aO 1 Q (bR 0 Q Q Q (aG 4 Q (cM (f:=(D.int .i64)) 1 3 1 Q Q Q (aL 2 Q (aP hm (λb1=>([(3,.msl 1 1 0 b1.length)])) (λb1=>([(1,.flat 3 1 (b1.map (D.int .i64)))])) [3] [] Q (λz2 hm=>?_) (λb1 hm=>?_)))))))
 ·refine aO 3 Q (SX Q Q (aN TK Q Q Q) (aL 4 Q (aV hm (λ(x6,b7)=>([(3,.msl 1 1 0 b7.length),(9,.d (.int .i64 x6))])) (λ(x6,b7)=>([(1,.flat 3 1 (b7.map (D.int .i64)))])) [3,9] [7,8] [0,1] Q k0 Q Q Q Q Q (λs z8 hm hz8=>?_))));obtain⟨x6,b7⟩:=s;refine WN [3,7,8,9] Q Q (bN 5 Q (bL hm Q (λh9 hm=>?_) (λh9 hm=>?_)))
  ·refine aR 6 Q (VE hm λe10 he10 hm=>SX Q Q (bA TK Q Q Q Q he10) (aG 1 Q (cK 2 Q Q tK Q (aL 10 Q (bL hm Q (λh11 hm=>?_) (λh11 hm=>?_))))))
   ·exact aR 3 Q (SX Q Q (cF [.tmp 18] TK Q Q dF Q Q Q Q Q) (GE hm λg12 hm=>cB (f:=(D.int .i64)) ([x6]:List Int) TK Q Q dF Q Q Q Q Q (λh=>absurd h (zQV _)) Q bZ g12 Q Q (aG 5 Q (GE hm λg13 hm=>SX Q Q (bI Q Q Q Q g13) (aE 2 Q (aX [0,1] hm Q Q))))))
   exact aR 4 Q (GE hm λg14 hm=>SX Q Q (bI Q Q Q Q g14) (aE 2 Q (aX [0,1] hm Q Q)))
  refine aM 2 Q (IE hm λv15 hm hz=>?_);rw [hz8 _ hz] at hm;exact WX (bD 1 Q (aT [0,1] hm Q Q))
 refine WN [3] Q Q (aM 6 Q ?_);obtain rfl:=OJ hm;exact EndsS.one _ Q (bQ Q) (.refl _)
theorem qLH {p0:Ag} {p1:Ai} {r0:A0} {r1:Bool} (hm:tW p0 p1=some (r0,r1)):Ret TP 101 [] (λ_=>false) ([p0.enc,p1.enc].map .d) (.tup ([r0.enc,.bool (r1)].map .d)) []:=by
 refine dW (aZ Q) func101 Q ntmps101 Q Q (λwX gX=>?_);unfold tW at hm;refine WN [0,1] Q Q (aO 1 Q (bR 0 Q Q Q (bR 1 Q Q Q (cK 2 Q Q oO Q (aL 4 Q ?_)))));refine cI [(16,.d (.bool (((decide (p1.exit < (0:Int)))||(decide ((p0.Ah.length:Int)<=p1.exit))))))] [16] [2,3,4] Q ?_ ?_
 ·refine aO 4 Q (SB TK Q (λq1 hq1=>?_));cases q1
  ·refine aG 4 Q (SX Q Q (aN TK Q Q Q) (aE 3 Q ?_));exact⟨[0,1,2],Q,k0,aW (aI (aK (by first|(simp [hq1];done)|(simp only [hq1];simp))) Q) Q⟩
  refine aE 8 Q ?_;exact⟨[0,1,2],Q,k0,aW (aI (aK (by first|(simp [hq1];done)|(simp only [hq1];simp))) Q) Q⟩
 refine WN [2,3,4,16] Q Q (bH hm Q (λh2 hm=>?_) (λh2 hm=>?_))
 ·refine aR 1 Q (SX Q Q (bV Q qSQ oO Q Q Q Q) (aE 6 Q ?_));obtain⟨rfl,rfl⟩:=Prod.mk.inj (Option.some.inj hm);exact⟨_,.mk _ (.cons (.agg (TK.lay Q) Q Q Q Q) (.cons (.tmp 5) .nil)) Q,(.cons (.d _) (.refl _) (.cons (.d _) (.refl _) .nil))⟩
 refine aR 7 Q (VE hm λe3 he3 hm=>SX Q Q (bA TK Q Q Q Q he3) (aE 6 Q ?_));obtain⟨rfl,rfl⟩:=Prod.mk.inj (Option.some.inj hm);exact⟨_,.mk _ (.cons (.agg (TK.lay Q) Q Q Q Q) (.cons (.tmp 5) .nil)) Q,(.cons (.d _) (.refl _) (.cons (.d _) (.refl _) .nil))⟩
theorem qDU {p0:Ag} {p1:Ai} {p2:(List An)} {p3:Int} {r:Bool} (hm:kE p0 p1 p2 p3=some r):RetN TP 103 [p0.enc,p1.enc,.sl 3 (p2.map An.enc),.int .i64 p3] (.bool (r)):=by
 refine .unit (aJ (aZ Q) func103 Q ntmps103 Q Q (λwX gX=>?_)) Q;unfold kE at hm;refine WN [0,1,2,3] Q Q (aO 1 Q (bR 0 Q Q Q (bR 1 Q Q Q (aL 3 Q (bF hm (λ_=>[]) (λ_=>[]) [] [3,4,5] Q (λz1 hm hz1=>?_) (λj hm=>?_))))))
 ·refine aO 2 Q (SX Q Q (aN TK Q Q Q) (aL 4 Q (aV hm (λx3=>([(15,.d (.int .i64 x3))])) (λx3=>[]) [15] [3,4,5,13,14] [0,1] Q k0 Q Q Q Q Q (λx3 z4 hm hz4=>WN [3,4,5,13,14,15] Q Q (bN 5 Q (bL hm Q (λh5 hm=>?_) (λh5 hm=>?_)))))))
  ·refine aR 5 Q (VE hm λe6 he6 hm=>SX Q Q (bA TK Q Q Q Q he6) (aG 1 Q (cK 2 Q Q fL Q (aL 10 Q (bL hm Q (λh7 hm=>?_) (λh7 hm=>?_))))))
   ·refine aM 7 Q (IE hm λv8 hm hz=>?_);rw [hz4 _ hz] at hm;refine WR (bD 1 Q (IE hm λv9 hm hz=>?_));rw [hz1 _ hz] at hm;exact WR (aS hm Q)
   exact aR 4 Q (GE hm λg10 hm=>SX Q Q (bI Q Q Q Q g10) (aE 2 Q (aX [0,1] hm Q Q)))
  refine aM 2 Q (IE hm λv11 hm hz=>?_);rw [hz4 _ hz] at hm;exact WX (bD 1 Q (aX [0,1] hm Q Q))
 refine WN [3,4,5] Q Q (bF hm (λ_=>[]) (λ_=>[]) [] [] Q (λz12 hm hz12=>?_) (λj hm=>?_))
 ·refine aO 3 Q (SX Q Q (aN TK Q Q Q) (aL 4 Q (aV hm (λx14=>([(27,.d (.int .i64 x14))])) (λx14=>[]) [27] [3,4,25,26] [0,1] Q k0 Q Q Q Q Q (λx14 z15 hm hz15=>WN [3,4,25,26,27] Q Q (bN 5 Q (bL hm Q (λh16 hm=>?_) (λh16 hm=>?_)))))))
  ·refine aR 5 Q (VE hm λe17 he17 hm=>SX Q Q (bA TK Q Q Q Q he17) (aG 8 Q (c_N hm (fS ·) Q Q Q Q λr18 hm=>aL 3 Q (bL hm Q (λh19 hm=>?_) (λh19 hm=>?_)))))
   ·refine aM 7 Q (IE hm λv20 hm hz=>?_);rw [hz15 _ hz] at hm;refine WR (bD 1 Q (IE hm λv21 hm hz=>?_));rw [hz12 _ hz] at hm;exact WR (aS hm Q)
   exact aR 4 Q (GE hm λg22 hm=>SX Q Q (bI Q Q Q Q g22) (aE 2 Q (aX [0,1] hm Q Q)))
  refine aM 2 Q (IE hm λv23 hm hz=>?_);rw [hz15 _ hz] at hm;exact WX (bD 1 Q (aX [0,1] hm Q Q))
 exact WN [] Q Q (aM 5 Q (aS hm Q))
theorem qLI {p0:Ag} {p1:Ai} {r:Ai} (hm:qB p0 p1=some r):RetD TP 51 [p0.enc,p1.enc] (r.enc):=by
 refine .of (mv:=λ_=>false) (aJ (aZ Q) func51 Q ntmps51 Q Q (λwX gX=>?_));unfold qB at hm;refine WN [0,1] Q Q (aO 1 Q (bR 0 Q Q Q (bR 1 Q Q Q (cK 2 Q Q dY Q (fP (f:=An.enc) 2 8 3 106 3 Q Q Q (cV 2 [none,none,none,some 3,some 2,some 1,none,none,none,some 2,some 1,some 2,some 1,some 2] Q Q (aG 5 Q (fP (f:=An.enc) 1 8 4 106 3 Q Q Q (aL 2 Q (WN [2,3,4] Q Q (aR 3 Q (cV 1 [none,none,none,none,none,none,none,none,none,some 2,none,none,none,none] Q Q (aL 2 Q ?_)))))))))))));refine WN [2,3,4] Q Q (aR 3 Q (cV 1 [none,none,none,none,none,none,none,none,none,none,some 1,none,none,none] Q Q (aL 2 Q (WN [2,3,4] Q Q (aR 3 Q (BE hm λr1 hr1 hm=>?_))))));obtain⟨r2,r3⟩:=r1;refine SX Q Q (qJT Q Q (SC (.d _) (SC (iA (.cons (.d _) Q (.cons (.d _) Q (.cons (.d _) Q (.cons (.d _) Q (.cons (.d _) Q (.cons (.d _) Q (.cons (.d _) Q (.cons (.d _) Q (.cons (bQ Q) Q (.cons (.d _) Q (.cons (.d _) Q (.cons (.d _) Q (.cons (.d _) Q (.cons (.d _) Q .nil))))))))))))))) SN)) (qLH hr1) Q) (aG 3 Q (cK 5 Q Q oO Q (aL 4 Q (WN [2,3,4,5,6] Q Q (bM 6 Q (bH hm Q (λh4 hm=>?_) (λh4 hm=>?_)))))))
 ·refine bM 5 Q (WN [4] Q Q (aM 2 Q ?_));obtain rfl:=OJ hm;exact EndsS.cellR _ TK Q Q Q Q Q (iA (.cons (.d _) Q (.cons (.d _) Q (.cons (.d _) Q (.cons (.d _) Q (.cons (.d _) Q (.cons (.d _) Q (.cons (.d _) Q (.cons (.d _) Q (.cons (bQ Q) Q (.cons (.d _) Q (.cons (.d _) Q (.cons (.d _) Q (.cons (.d _) Q (.cons (.d _) Q .nil)))))))))))))))
 refine aR 6 Q (BE hm λr5 hr5 hm=>?_);obtain⟨r6,r7⟩:=r5;refine SX Q Q (cT Q Q Q (jH hr5)) (aG 3 Q (cK 6 Q Q cR Q (aL 4 Q (WN [2,3,4,5,7,8] Q Q (aP hm (λ(b8,c9,c10)=>[]) (λ(b8,c9,c10)=>([(1,.box 113 [.d (.str p1.name),.d (.int .i64 p1.entry),.d (.int .i64 p1.exit),.d (.sl 3 (p1.path.map An.enc)),.d (.sl 2 (p1.Ae.map Aa.enc)),.d (.sl 1 (p1.Ad.map (D.int .i64))),.d (.int .i64 p1.A2),.d (.int .i64 p1.length),.msl 4 3 0 b8.length,.d (.sl 2 (([]:List Aa).map Aa.enc)),.d (.sl 1 (([]:List Int).map (D.int .i64))),.d (.sl 2 (p1.At.map Aa.enc)),.d (.sl 1 (p1.guards.map (D.int .i64))),.d (.sl 2 (p1.gaps.map End.enc))]),(4,.flat 106 3 (b8.map An.enc)),(6,.box 147 [.d (.int .i64 c9),.d (.int .i64 c10)])])) [] [2,3,4] Q (λz11 hm=>?_) (λj hm=>?_))))))
 ·refine bN 1 Q (aV hm (λ(joined17,c18,c19,b20)=>([(8,.d (.bool (joined17)))])) (λ(joined17,c18,c19,b20)=>([(1,.box 113 [.d (.str p1.name),.d (.int .i64 p1.entry),.d (.int .i64 p1.exit),.d (.sl 3 (p1.path.map An.enc)),.d (.sl 2 (p1.Ae.map Aa.enc)),.d (.sl 1 (p1.Ad.map (D.int .i64))),.d (.int .i64 p1.A2),.d (.int .i64 p1.length),.msl 4 3 0 b20.length,.d (.sl 2 (([]:List Aa).map Aa.enc)),.d (.sl 1 (([]:List Int).map (D.int .i64))),.d (.sl 2 (p1.At.map Aa.enc)),.d (.sl 1 (p1.guards.map (D.int .i64))),.d (.sl 2 (p1.gaps.map End.enc))]),(4,.flat 106 3 (b20.map An.enc)),(6,.box 147 [.d (.int .i64 c18),.d (.int .i64 c19)])])) [8] [2,3,4,5,7] [0,1,2,3,4,5,6] Q k0 Q Q Q Q Q (λs z21 hm hz21=>?_));obtain⟨joined17,c18,c19,b20⟩:=s;refine WN [2,3,4,5,7,8] Q Q (bN 1 Q (aP hm (λx22=>([(54,.d (.bool (x22)))])) (λx22=>[]) [54] [2,3,4,5,7] Q (λz23 hm=>?_) (λx22 hm=>?_)))
  ·refine cJ follows (DA [0,1,2,3,4,5,6] TK Q (d_b [0,1,2,3,4,5,6] TK Q (λq24 hq24=>?_)));cases q24
   ·replace hm:=JB hq24 hm;iterate 24 (refine DA [0,1,2,3,4,5,6] TK Q ?_)
    refine DT ?_ (by kernel_rfl);exact aE 1 Q (aT [0,1,2,3,4,5,6] hm Q Q)
   replace hm:=JA hq24 hm;iterate 3 (refine DA [0,1,2,3,4,5,6] TK Q ?_)
   refine BE hm λr25 hr25 hm=>DX [0,1,2,3,4,5,6] Q Q (RN Q Q (SC (.d _) (SC (bQ Q) SN)) (qF hr25)) ?_;iterate 4 (refine DA [0,1,2,3,4,5,6] TK Q ?_)
   refine d_b [0,1,2,3,4,5,6] TK Q (λq26 hq26=>?_);cases q26
   ·replace hm:=JF hq26 hm;iterate 15 (refine DA [0,1,2,3,4,5,6] TK Q ?_)
    refine DT ?_ (by kernel_rfl);exact aE 1 Q (aT [0,1,2,3,4,5,6] hm Q Q)
   replace hm:=JT hq26 hm;iterate 5 (refine DA [0,1,2,3,4,5,6] TK Q ?_)
   refine d_b [0,1,2,3,4,5,6] TK Q (λq27 hq27=>?_);cases q27
   ·replace hm:=JF hq27 hm;iterate 9 (refine DA [0,1,2,3,4,5,6] TK Q ?_)
    refine DT ?_ (by kernel_rfl);exact aE 1 Q (aT [0,1,2,3,4,5,6] hm Q Q)
   replace hm:=JT hq27 hm;iterate 6 (refine DA [0,1,2,3,4,5,6] TK Q ?_)
   refine BE hm λr28 hr28 hm=>DX [0,1,2,3,4,5,6] Q Q (RN Q Q (SC (.d _) (SC (iA (.cons (.d _) Q (.cons (.d _) Q (.cons (.d _) Q (.cons (.d _) Q (.cons (.d _) Q (.cons (.d _) Q (.cons (.d _) Q (.cons (.d _) Q (.cons (bQ Q) Q (.cons (.d _) Q (.cons (.d _) Q (.cons (.d _) Q (.cons (.d _) Q (.cons (.d _) Q .nil))))))))))))))) (SC (bQ Q) (tM Q)))) (qDU hr28)) ?_;iterate 2 (refine DA [0,1,2,3,4,5,6] TK Q ?_)
   refine DT ?_ (by kernel_rfl);exact aE 1 Q (aT [0,1,2,3,4,5,6] hm Q Q)
  refine WN [2,3,4,5,7,54] Q Q (bH hm Q (λh29 hm=>?_) (λh29 hm=>?_))
  ·refine aR 6 Q (c_D hm (sW ·) Q Q Q Q λr30 hm=>aG 6 Q (SX Q Q (aN TK Q Q Q) (aL 3 Q (bL hm Q (λh31 hm=>?_) (λh31 hm=>?_)))))
   ·refine aM 3 Q (IE hm λv32 hm hz=>?_);rw [hz21 _ hz] at hm;exact WX (bD 1 Q (aT [0,1,2,3,4,5,6] hm Q Q))
   refine bM 2 Q (cW (bJ follows (DA [] TK Q (DA [1] TK Q (DA [] TK Q (VE hm λe33 he33 hm=>DX [] Q Q (bA TK Q Q Q Q he33) (DA [] TK Q (DX [] Q Q (cF [.tmp 65] TK Q Q fL Q Q Q Q Q) (GE hm λg34 hm=>oJ [4,7] _ (.msl 7 3 0 (b20++([e33]:List An)).length) Q (eH Q) Q (tL (f:=An.enc) (xs:=b20) ([e33]:List An) Q Q Q TK Q fL Q Q Q Q Q Q bZ g34) (DA [] TK Q ?_))))))))));refine DT ?_ (by kernel_rfl);refine aL 3 Q (WN [2,3,4,5,7,9] Q Q (dC follows (DA [0] TK Q (DA [] TK Q (VE hm λe35 he35 hm=>DX [] Q Q (bA TK Q Q Q Q he35) (DA [] TK Q (BE hm λr36 hr36 hm=>?_)))))));obtain⟨r37,r38⟩:=r36;refine DX [] Q Q (cT Q Q Q (oS hr36)) ?_;iterate 3 (refine DA [] TK Q ?_)
   refine qQK 1000012 [6] [(6,.box 147 [.d (.int .i64 r37.el),.d (.int .i64 r37.side)])] (eH Q) Q (uT TK Q Q Q Q Q Q Q Q Q Q) ?_;refine DT ?_ (by kernel_rfl);exact aE 3 Q (aX [0,1,2,3,7,5,6] hm Q Q)
  refine aM 2 Q (IE hm λv39 hm hz=>?_);rw [hz21 _ hz] at hm;exact WX (bD 1 Q (aT [0,1,2,3,4,5,6] hm Q Q))
 obtain⟨b8,c9,c10⟩:=j;refine WN [2,3,4] Q Q ?_;refine qTS 1 8 4 [2,3,4] Q Q Q Q Q Q (by simp) Q Q Q ?_;refine aR 4 Q (c_D hm (sV ·) Q Q Q Q λr40 hm=>aL 4 Q (WN [2,3,4] Q Q (aR 4 Q (c_D hm (mR ·) Q Q Q Q λr41 hm=>aL 4 Q (WN [3,4] Q Q (bM 5 Q (WN [4] Q Q (aM 1 Q ?_))))))));obtain rfl:=OJ hm;exact EndsS.cellR _ TK Q Q Q Q Q (.d _)
theorem vG {p0:Ag} {p1:An} {r:(List End)} (hm:gW p0 p1=some r):RetD TP 150 [p0.enc,p1.enc] (.sl 2 (r.map End.enc)):=by
 refine .of (mv:=λ_=>false) (aJ (aZ Q) func150 Q ntmps150 Q Q (λwX gX=>?_));unfold gW at hm;refine WN [0,1] Q Q (aO 1 Q (bR 0 Q Q Q (bR 1 Q Q Q (aL 4 Q ?_))));refine cI [(20,.d (.bool (((decide (p1.el < (0:Int)))||(decide ((p0.Af.length:Int)<=p1.el))))))] [20] [2,3] Q ?_ ?_
 ·refine aO 4 Q (SB TK Q (λq1 hq1=>?_));cases q1
  ·refine aG 4 Q (SX Q Q (aN TK Q Q Q) (aE 3 Q ?_));exact⟨[0,1],Q,k0,aW (aI (aK (by first|(simp [hq1];done)|(simp only [hq1];simp))) Q) Q⟩
  refine aE 8 Q ?_;exact⟨[0,1],Q,k0,aW (aI (aK (by first|(simp [hq1];done)|(simp only [hq1];simp))) Q) Q⟩
 refine WN [2,3,20] Q Q (bH hm Q (λh2 hm=>?_) (λh2 hm=>?_))
 ·refine bM 4 Q (uS 4 [some 2] Q (aM 2 Q ?_));obtain rfl:=OJ hm;exact EndsS.one _ Q (.d _) (.refl _)
 refine aR 7 Q (VE hm λe3 he3 hm=>SX Q Q (bA TK Q Q Q Q he3) (aG 11 Q (BE hm λr4 hr4 hm=>?_)));obtain⟨r5,r6⟩:=r4;refine SX Q Q (cT Q Q Q (jR hr4)) (aL 7 Q (WN [3,5,7] Q Q (aR 1 Q (cM (f:=End.enc) 2 147 2 Q Q Q (aL 2 Q (aP hm (λb7=>([(8,.msl 2 2 0 b7.length)])) (λb7=>([(2,.flat 147 2 (b7.map End.enc))])) [8] [] Q (λz8 hm=>?_) (λb7 hm=>?_)))))))
 ·refine bN 5 Q (aV hm (λ(side12,b13)=>([(8,.msl 2 2 0 b13.length),(9,.d (.int .i64 side12))])) (λ(side12,b13)=>([(2,.flat 147 2 (b13.map End.enc))])) [8,9] [3,5,7] [0,1,2] Q k0 Q Q Q Q Q (λs z14 hm hz14=>?_));obtain⟨side12,b13⟩:=s;refine WN [3,5,7,8,9] Q Q (aO 4 Q (c_N hm (xX ·) Q Q Q Q λr15 hm=>aL 3 Q (bL hm Q (λh16 hm=>?_) (λh16 hm=>?_))))
  ·refine bM 4 Q (cI [(55,.d (.bool ((r6&&((!(decide (side12=p1.inV)))&&(!(decide (side12=p1.out))))))))] [55] [3,5,7,8,9] Q ?_ ?_)
   ·refine aO 2 Q (SB TK Q (λq17 hq17=>?_));cases q17
    ·refine aE 12 Q ?_;exact⟨[0,1,2],Q,k0,aW (aI (aK (by first|(simp [hq17];done)|(simp only [hq17];simp))) Q) Q⟩
    refine aG 5 Q (SB TK Q (λq18 hq18=>?_));cases q18
    ·refine aE 6 Q ?_;exact⟨[0,1,2],Q,k0,aW (aI (aK (by first|(simp [hq17,hq18];done)|(simp only [hq17,hq18];simp))) Q) Q⟩
    refine aE 6 Q ?_;exact⟨[0,1,2],Q,k0,aW (aI (aK (by first|(simp [hq17,hq18];done)|(simp only [hq17,hq18];simp))) Q) Q⟩
   refine WN [3,5,7,8,9,55] Q Q (bH hm Q (λh19 hm=>?_) (λh19 hm=>?_))
   ·exact aR 5 Q (SX Q Q (bV Q oI cR Q Q Q Q) (SX Q Q (cF [.tmp 60] TK Q Q cR Q Q Q Q Q) (GE hm λg20 hm=>cB (f:=End.enc) ([(⟨p1.el,side12⟩:End)]:List End) TK Q Q cR Q Q Q Q Q (λh=>absurd h (zQV _)) Q bZ g20 Q Q (aG 6 Q (GE hm λg21 hm=>SX Q Q (bI Q Q Q Q g21) (aE 2 Q (aX [0,1,2] hm Q Q)))))))
   exact aR 5 Q (GE hm λg22 hm=>SX Q Q (bI Q Q Q Q g22) (aE 2 Q (aX [0,1,2] hm Q Q)))
  refine aM 2 Q (IE hm λv23 hm hz=>?_);rw [hz14 _ hz] at hm;exact WX (bD 1 Q (aT [0,1,2] hm Q Q))
 refine WN [8] Q Q (aM 6 Q ?_);obtain rfl:=OJ hm;exact EndsS.one _ Q (bQ Q) (.refl _)
theorem qIQ {p0:Ag} {p1:Ai} {r:(List End)} (hm:nQ p0 p1=some r):RetD TP 97 [p0.enc,p1.enc] (.sl 2 (r.map End.enc)):=by
 refine .of (mv:=λ_=>false) (aJ (aZ Q) func97 Q ntmps97 Q Q (λwX gX=>?_));unfold nQ at hm;refine WN [0,1] Q Q (aO 1 Q (bR 0 Q Q Q (bR 1 Q Q Q (aG 4 Q (cM (f:=End.enc) 2 147 2 Q Q Q (aL 2 Q (aP hm (λb1=>([(5,.msl 2 2 0 b1.length)])) (λb1=>([(2,.flat 147 2 (b1.map End.enc))])) [5] [2,3] Q (λz2 hm=>?_) (λb1 hm=>?_))))))))
 ·refine bN 5 Q (aV hm (λ(i6,b7)=>([(5,.msl 2 2 0 b7.length),(6,.d (.int .i64 i6))])) (λ(i6,b7)=>([(2,.flat 147 2 (b7.map End.enc))])) [5,6] [2,3] [0,1,2] Q k0 Q Q Q Q Q (λs z8 hm hz8=>?_));obtain⟨i6,b7⟩:=s;refine WN [2,3,5,6] Q Q (aO 5 Q (SX Q Q (aN TK Q Q Q) (aL 3 Q (bL hm Q (λh9 hm=>?_) (λh9 hm=>?_)))))
  ·refine bM 4 Q (dC follows ?_);iterate 5 (refine DA [0,1,2] TK Q ?_)
   refine VE hm λe10 he10 hm=>DX [0,1,2] Q Q (bA TK Q Q Q Q he10) (DA [0,1,2] TK Q (jN [0,1,2] hm (vG ·) Q Q Q Q λr11 hm=>?_));refine DT ?_ (by kernel_rfl);exact GE hm λg12 hm=>cB (f:=End.enc) r11 TK Q Q cR Q Q Q Q Q (λh=>absurd h (zQV _)) Q bZ g12 Q Q (aG 6 Q (GE hm λg13 hm=>SX Q Q (bI Q Q Q Q g13) (aE 2 Q (aX [0,1,2] hm Q Q))))
  refine aM 2 Q (IE hm λv14 hm hz=>?_);rw [hz8 _ hz] at hm;exact WX (bD 1 Q (aT [0,1,2] hm Q Q))
 refine WN [2,3,5] Q Q (aP hm (λb15=>([(5,.msl 2 2 0 b15.length)])) (λb15=>([(2,.flat 147 2 (b15.map End.enc))])) [5] [] Q (λz16 hm=>?_) (λb15 hm=>?_))
 ·refine bN 5 Q (aV hm (λ(i20,b21)=>([(5,.msl 2 2 0 b21.length),(7,.d (.int .i64 i20))])) (λ(i20,b21)=>([(2,.flat 147 2 (b21.map End.enc))])) [5,7] [2,3] [0,1,2] Q k0 Q Q Q Q Q (λs z22 hm hz22=>?_));obtain⟨i20,b21⟩:=s;refine WN [2,3,5,7] Q Q (aO 5 Q (SX Q Q (aN TK Q Q Q) (aL 3 Q (bL hm Q (λh23 hm=>?_) (λh23 hm=>?_)))))
  ·refine bM 4 Q (dC follows ?_);iterate 5 (refine DA [0,1,2] TK Q ?_)
   refine VE hm λe24 he24 hm=>DX [0,1,2] Q Q (bA TK Q Q Q Q he24) (DA [0,1,2] TK Q (jN [0,1,2] hm (vG ·) Q Q Q Q λr25 hm=>?_));refine DT ?_ (by kernel_rfl);exact GE hm λg26 hm=>cB (f:=End.enc) r25 TK Q Q cR Q Q Q Q Q (λh=>absurd h (zQV _)) Q bZ g26 Q Q (aG 6 Q (GE hm λg27 hm=>SX Q Q (bI Q Q Q Q g27) (aE 2 Q (aX [0,1,2] hm Q Q))))
  refine aM 2 Q (IE hm λv28 hm hz=>?_);rw [hz22 _ hz] at hm;exact WX (bD 1 Q (aT [0,1,2] hm Q Q))
 refine WN [5] Q Q (aM 6 Q ?_);obtain rfl:=OJ hm;exact EndsS.one _ Q (bQ Q) (.refl _)
theorem zL {p0:(List An)} {p1:Int} {r:Bool} (hm:mP p0 p1=some r):RetN TP 152 [.sl 3 (p0.map An.enc),.int .i64 p1] (.bool (r)):=by
 refine .unit (aJ (aZ Q) func152 Q ntmps152 Q Q (λwX gX=>?_)) Q;unfold mP at hm;refine WN [0,1] Q Q (bN 4 Q (bF hm (λ_=>[]) (λ_=>[]) [] [] Q (λz1 hm hz1=>?_) (λj hm=>?_)))
 ·refine bN 5 Q (aV hm (λi3=>([(5,.d (.int .i64 i3))])) (λi3=>[]) [5] [0,1] [] Q k0 Q Q Q Q Q (λi3 z4 hm hz4=>WN [0,1,5] Q Q (aO 4 Q (SX Q Q (aN TK Q Q Q) (aL 3 Q (bL hm Q (λh5 hm=>?_) (λh5 hm=>?_)))))))
  ·refine aR 7 Q (VE hm λe6 he6 hm=>SX Q Q (bA TK Q Q Q Q he6) (aL 6 Q (bL hm Q (λh7 hm=>?_) (λh7 hm=>?_))))
   ·refine aM 7 Q (IE hm λv8 hm hz=>?_);rw [hz4 _ hz] at hm;refine WR (bD 1 Q (IE hm λv9 hm hz=>?_));rw [hz1 _ hz] at hm;exact WR (aS hm Q)
   exact aR 5 Q (GE hm λg10 hm=>SX Q Q (bI Q Q Q Q g10) (aE 2 Q (aX [] hm Q Q)))
  refine aM 2 Q (IE hm λv11 hm hz=>?_);rw [hz4 _ hz] at hm;exact WX (bD 1 Q (aX [] hm Q Q))
 exact WN [] Q Q (aM 5 Q (aS hm Q))
theorem rL {p0:(List Aa)} {p1:Aa} {r:Bool} (hm:lF p0 p1=some r):RetN TP 155 [.sl 2 (p0.map Aa.enc),p1.enc] (.bool (r)):=by
 refine .unit (aJ (aZ Q) func155 Q ntmps155 Q Q (λwX gX=>?_)) Q;unfold lF at hm;refine WN [0,1] Q Q (aO 1 Q (bR 0 Q Q Q (aL 3 Q (bF hm (λ_=>[]) (λ_=>[]) [] [] Q (λz1 hm hz1=>?_) (λj hm=>?_)))))
 ·refine bN 5 Q (aV hm (λi3=>([(5,.d (.int .i64 i3))])) (λi3=>[]) [5] [0,3] [0] Q k0 Q Q Q Q Q (λi3 z4 hm hz4=>WN [0,3,5] Q Q (aO 4 Q (SX Q Q (aN TK Q Q Q) (aL 3 Q (bL hm Q (λh5 hm=>?_) (λh5 hm=>?_)))))))
  ·refine bM 4 Q (bJ follows ?_);iterate 2 (refine DA [0] TK Q ?_)
   refine VE hm λe6 he6 hm=>DX [0] Q Q (bA TK Q Q Q Q he6) ?_;iterate 2 (refine DA [0] TK Q ?_)
   refine GE hm λg7 hm=>DX [0] Q Q (qHK Q Q Q g7.1 g7.2) ?_;refine DT ?_ (by kernel_rfl);refine aL 2 Q (bL hm Q (λh9 hm=>?_) (λh9 hm=>?_))
   ·refine aM 7 Q (IE hm λv10 hm hz=>?_);rw [hz4 _ hz] at hm;refine WR (bD 1 Q (IE hm λv11 hm hz=>?_));rw [hz1 _ hz] at hm;exact WR (aS hm Q)
   exact aR 5 Q (GE hm λg12 hm=>SX Q Q (bI Q Q Q Q g12) (aE 2 Q (aX [0] hm Q Q)))
  refine aM 2 Q (IE hm λv13 hm hz=>?_);rw [hz4 _ hz] at hm;exact WX (bD 1 Q (aX [0] hm Q Q))
 exact WN [] Q Q (aM 5 Q (aS hm Q))
theorem qIP {p0:Ai} {p1:Aa} {r:Bool} (hm:rK p0 p1=some r):RetN TP 189 [p0.enc,p1.enc] (.bool (r)):=by
 refine .unit (aJ (aZ Q) func189 Q ntmps189 Q Q (λwX gX=>?_)) Q;unfold rK at hm;refine WN [0,1] Q Q (aO 1 Q (bR 0 Q Q Q (bR 1 Q Q Q (aL 3 Q (aP hm (λx1=>([(4,.d (.bool (x1)))])) (λx1=>[]) [4] [] Q (λz2 hm=>?_) (λx1 hm=>?_))))))
 ·refine aO 4 Q (c_N hm (rL ·) Q Q Q Q λr3 hm=>SB TK Q (λq4 hq4=>?_));cases q4
  ·replace hm:=JB hq4 hm;refine aG 3 Q (c_N hm (rL ·) Q Q Q Q λr5 hm=>aG 1 Q (SB TK Q (λq6 hq6=>?_)));cases q6
   ·replace hm:=JB hq6 hm;exact aG 3 Q (c_N hm (rL ·) Q Q Q Q λr7 hm=>aE 3 Q (aT [0,1] hm Q Q))
   replace hm:=JA hq6 hm;exact aE 7 Q (aT [0,1] hm Q Q)
  replace hm:=JA hq4 hm;exact aE 13 Q (aT [0,1] hm Q Q)
 exact WN [4] Q Q (aM 1 Q (aS hm Q))
theorem qOH {p0:Ai} {p1:End} {r0:Aa} {r1:Int} {r2:Bool} (hm:pA p0 p1=some (r0,r1,r2)):Ret TP 153 [] (λ_=>false) ([p0.enc,p1.enc].map .d) (.tup ([r0.enc,.int .i64 r1,.bool (r2)].map .d)) []:=by
 refine dW (aZ Q) func153 Q ntmps153 Q Q (λwX gX=>?_);unfold pA at hm;refine WN [0,1] Q Q (aO 1 Q (bR 0 Q Q Q (bR 1 Q Q Q (cK 2 Q Q bX Q (aG 7 Q (SX Q Q (bV Q qL bX Q Q Q Q) (cK 3 Q Q bX Q (aG 6 Q (SX Q Q (bV Q qL bX Q Q Q Q) (cK 4 Q Q bX Q (aL 3 Q (WN [2,3,4,7,8] Q Q (aP hm (λ(c1,c2)=>[]) (λ(c1,c2)=>([(3,.box 126 [.d (.int .i64 p1.el),.d (.int .i64 c1)]),(4,.box 126 [.d (.int .i64 p1.el),.d (.int .i64 c2)])])) [] [2,4,7,8] Q (λz3 hm=>?_) (λj hm=>?_))))))))))))))
 ·refine bN 6 Q (bL hm Q (λh4 hm=>?_) (λh4 hm=>?_))
  ·exact aR 3 Q (SX Q Q (bV Q qL bX Q Q Q Q) (aL 3 Q (WN [2,3,4,7,8] Q Q (aR 3 Q (SX Q Q (bV Q qL bX Q Q Q Q) (aE 2 Q (aT [0,1,2,3,4] hm Q Q)))))))
  exact aM 1 Q (aT [0,1,2,3,4] hm Q Q)
 obtain⟨c1,c2⟩:=j;refine WN [2,4,7,8] Q Q (aR 4 Q (c_N hm (qIP ·) Q Q Q Q λr5 hm=>aL 2 Q (bH hm Q (λh6 hm=>?_) (λh6 hm=>?_))))
 ·refine aR 1 Q (SX Q Q (bV Q qL bX Q Q Q Q) (aE 7 Q ?_));obtain⟨rfl,hmj0⟩:=Prod.mk.inj (Option.some.inj hm);obtain⟨rfl,rfl⟩:=Prod.mk.inj (hmj0);exact⟨_,.mk _ (.cons (.agg (TK.lay Q) Q Q Q Q) (.cons (.tmp 5) (.cons (.tmp 6) .nil))) Q,(.cons (.d _) (.refl _) (.cons (.d _) (.refl _) (.cons (.d _) (.refl _) .nil)))⟩
 refine bM 9 Q (WN [4,5,6] Q Q (aM 1 Q ?_));obtain⟨rfl,hmj0⟩:=Prod.mk.inj (Option.some.inj hm);obtain⟨rfl,rfl⟩:=Prod.mk.inj (hmj0);exact⟨_,.mk _ (.cons (.agg (TK.lay Q) Q Q Q Q) (.cons (.tmp 5) (.cons (.tmp 6) .nil))) Q,(.cons (.d _) (.refl _) (.cons (.d _) (.refl _) (.cons (.d _) (.refl _) .nil)))⟩
theorem qOI {p0:Ai} {p1:End} {r0:Aa} {r1:Int} {r2:Bool} (hm:pA p0 p1=some (r0,r1,r2)):RetT TP 153 [p0.enc,p1.enc] [r0.enc,.int .i64 r1,.bool (r2)]:=.of (mv:=λ_=>false) (qOH hm)
theorem qOL {p0:Int} {p1:Int} {p2:Int} {r0:Int} {r1:Bool} (hm:pB p0 p1 p2=some (r0,r1)):Ret TP 154 [] (λ_=>false) ([.int .i64 p0,.int .i64 p1,.int .i64 p2].map .d) (.tup ([.int .i64 r0,.bool (r1)].map .d)) []:=by
 refine dW (aZ Q) func154 Q ntmps154 Q Q (λwX gX=>?_);unfold pB at hm;refine WN [0,1,2] Q Q (bN 5 Q (bF hm (λ_=>[]) (λ_=>[]) [] [] Q (λz1 hm hz1=>?_) (λj hm=>?_)))
 ·refine bN 5 Q (aV hm (λout3=>([(8,.d (.int .i64 out3))])) (λout3=>[]) [8] [0,1,2] [] Q k0 Q Q Q Q Q (λout3 z4 hm hz4=>WN [0,1,2,8] Q Q (bN 6 Q (bL hm Q (λh5 hm=>?_) (λh5 hm=>?_)))))
  ·refine aR 8 Q (BE hm λr6 hr6 hm=>?_);obtain⟨r7,r8⟩:=r6;refine SX Q Q (cT Q Q Q (jR hr6)) (aL 7 Q ?_);refine cI [(31,.d (.bool ((r8&&((decide (r7=(0:Int)))||(decide (r7=p2)))))))] [31] [0,1,2,8] Q ?_ ?_
   ·refine aO 2 Q (SB TK Q (λq9 hq9=>?_));cases q9
    ·refine aE 9 Q ?_;exact⟨[],Q,k0,aW (aI (aK (by first|(simp [hq9];done)|(simp only [hq9];simp))) Q) Q⟩
    refine aG 2 Q (SB TK Q (λq10 hq10=>?_));cases q10
    ·refine aE 6 Q ?_;exact⟨[],Q,k0,aW (aI (aK (by first|(simp [hq9,hq10];done)|(simp only [hq9,hq10];simp))) Q) Q⟩
    refine aE 6 Q ?_;exact⟨[],Q,k0,aW (aI (aK (by first|(simp [hq9,hq10];done)|(simp only [hq9,hq10];simp))) Q) Q⟩
   refine WN [0,1,2,8,31] Q Q (bH hm Q (λh11 hm=>?_) (λh11 hm=>?_))
   ·refine aM 9 Q (IE hm λv12 hm hz=>?_);rw [hz4 _ hz] at hm;refine WR (bD 1 Q (IE hm λv13 hm hz=>?_));rw [hz1 _ hz] at hm;refine WR ?_;obtain⟨rfl,rfl⟩:=Prod.mk.inj (Option.some.inj hm);exact EndsT.two Q (.d _) (.refl _) (.d _) (.refl _)
   exact aR 5 Q (GE hm λg14 hm=>SX Q Q (bI Q Q Q Q g14) (aE 2 Q (aX [] hm Q Q)))
  refine aM 2 Q (IE hm λv15 hm hz=>?_);rw [hz4 _ hz] at hm;exact WX (bD 1 Q (aX [] hm Q Q))
 refine WN [] Q Q (aM 6 Q ?_);obtain⟨rfl,rfl⟩:=Prod.mk.inj (Option.some.inj hm);exact EndsT.two Q (.d _) (.refl _) (.d _) (.refl _)
theorem qOM {p0:Int} {p1:Int} {p2:Int} {r0:Int} {r1:Bool} (hm:pB p0 p1 p2=some (r0,r1)):RetT TP 154 [.int .i64 p0,.int .i64 p1,.int .i64 p2] [.int .i64 r0,.bool (r1)]:=.of (mv:=λ_=>false) (qOL hm)
theorem qFL {p0:Ag} {p1:Ai} {p2:End} {r0:Aa} {r1:Int} {r2:Bool} (hm:lW p0 p1 p2=some (r0,r1,r2)):Ret TP 98 [] (λ_=>false) ([p0.enc,p1.enc,p2.enc].map .d) (.tup ([r0.enc,.int .i64 r1,.bool (r2)].map .d)) []:=by
 refine dW (aZ Q) func98 Q ntmps98 Q Q (λwX gX=>?_);unfold lW at hm;refine WN [0,1,2] Q Q (aO 1 Q (bR 0 Q Q Q (bR 1 Q Q Q (bR 2 Q Q Q (cK 3 Q Q bX Q (aL 4 Q (bF hm (λ(c1,c2)=>[]) (λ(c1,c2)=>([(2,.box 147 [.d (.int .i64 c1),.d (.int .i64 c2)])])) [] [6] Q (λz3 hm hz3=>?_) (λj hm=>?_))))))))
 ·refine bN 5 Q (aV hm (λ(n8,c9,c10)=>([(9,.d (.int .i64 n8))])) (λ(n8,c9,c10)=>([(2,.box 147 [.d (.int .i64 c9),.d (.int .i64 c10)])])) [9] [3,4,5,6] [0,1,2,3] Q k0 Q Q Q Q Q (λs z11 hm hz11=>?_));obtain⟨n8,c9,c10⟩:=s;refine WN [3,4,5,6,9] Q Q (bN 6 Q (bL hm Q (λh12 hm=>?_) (λh12 hm=>?_)))
  ·refine aR 7 Q (BE hm λr13 hr13 hm=>?_);obtain⟨r14,r15⟩:=r13;refine SX Q Q (cT Q Q Q (jH hr13)) (aG 3 Q (cK 4 Q Q cR Q (aL 4 Q (WN [3,4,5,6,9,10,11] Q Q (bM 6 Q (bH hm Q (λh16 hm=>?_) (λh16 hm=>?_)))))))
   ·refine aR 1 Q (SX Q Q (bV Q qL bX Q Q Q Q) (aE 9 Q (IE hm λv17 hm hz=>?_)));rw [hz11 _ hz] at hm;refine WR (bD 1 Q (IE hm λv18 hm hz=>?_));rw [hz3 _ hz] at hm;refine WR ?_;obtain⟨rfl,hmj0⟩:=Prod.mk.inj (Option.some.inj hm);obtain⟨rfl,rfl⟩:=Prod.mk.inj (hmj0);exact⟨_,.mk _ (.cons (.agg (TK.lay Q) Q Q Q Q) (.cons (.tmp 7) (.cons (.tmp 8) .nil))) Q,(.cons (.d _) (.refl _) (.cons (.d _) (.refl _) (.cons (.d _) (.refl _) .nil)))⟩
   refine aR 5 Q (c_N hm (qH ·) Q Q Q Q λr19 hm=>aL 9 Q (bL hm Q (λh20 hm=>?_) (λh20 hm=>?_)))
   ·refine aR 1 Q (SX Q Q (bV Q qL bX Q Q Q Q) (aL 6 Q (WN [6,7,8] Q Q (aM 4 Q (IE hm λv21 hm hz=>?_)))));rw [hz11 _ hz] at hm;refine WR (bD 1 Q (IE hm λv22 hm hz=>?_));rw [hz3 _ hz] at hm;refine WR ?_;obtain⟨rfl,hmj0⟩:=Prod.mk.inj (Option.some.inj hm);obtain⟨rfl,rfl⟩:=Prod.mk.inj (hmj0);exact⟨_,.mk _ (.cons (.agg (TK.lay Q) Q Q Q Q) (.cons (.tmp 7) (.cons (.tmp 8) .nil))) Q,(.cons (.d _) (.refl _) (.cons (.d _) (.refl _) (.cons (.d _) (.refl _) .nil)))⟩
   refine bM 3 Q (aP hm (λx23=>([(46,.d (.bool (x23)))])) (λx23=>[]) [46] [3,4,5,6,9,10] Q (λz24 hm=>?_) (λx23 hm=>?_))
   ·refine aO 5 Q (c_N hm (zL ·) Q Q Q Q λr25 hm=>SB TK Q (λq26 hq26=>?_));cases q26
    ·replace hm:=JB hq26 hm;exact aG 4 Q (c_N hm (zL ·) Q Q Q Q λr27 hm=>aE 2 Q (aT [0,1,2,3,4] hm Q Q))
    replace hm:=JA hq26 hm;exact aE 7 Q (aT [0,1,2,3,4] hm Q Q)
   refine WN [3,4,5,6,9,10,46] Q Q (bH hm Q (λh28 hm=>?_) (λh28 hm=>?_))
   ·refine aR 1 Q (SX Q Q (bV Q qL bX Q Q Q Q) (aE 9 Q (IE hm λv29 hm hz=>?_)));rw [hz11 _ hz] at hm;refine WR (bD 1 Q (IE hm λv30 hm hz=>?_));rw [hz3 _ hz] at hm;refine WR ?_;obtain⟨rfl,hmj0⟩:=Prod.mk.inj (Option.some.inj hm);obtain⟨rfl,rfl⟩:=Prod.mk.inj (hmj0);exact⟨_,.mk _ (.cons (.agg (TK.lay Q) Q Q Q Q) (.cons (.tmp 7) (.cons (.tmp 8) .nil))) Q,(.cons (.d _) (.refl _) (.cons (.d _) (.refl _) (.cons (.d _) (.refl _) .nil)))⟩
   refine bM 3 Q (aP hm (λx31=>([(73,.d (.bool (x31)))])) (λx31=>[]) [73] [3,4,5,6,9,10] Q (λz32 hm=>?_) (λx31 hm=>?_))
   ·refine aO 4 Q (SB TK Q (λq33 hq33=>?_));cases q33
    ·replace hm:=JF hq33 hm;refine aG 4 Q (SX Q Q (aN TK Q Q Q) (aG 2 Q (SB TK Q (λq34 hq34=>?_))));cases q34
     ·replace hm:=JF hq34 hm;refine aG 4 Q (VE hm λe35 he35 hm=>SX Q Q (bA TK Q Q Q Q he35) (aG 3 Q (SB TK Q (λq36 hq36=>?_))));cases q36
      ·replace hm:=JF hq36 hm;exact aE 6 Q (aT [0,1,2,3,4] hm Q Q)
      replace hm:=JT hq36 hm;exact aE 6 Q (aT [0,1,2,3,4] hm Q Q)
     replace hm:=JT hq34 hm;exact aE 15 Q (aT [0,1,2,3,4] hm Q Q)
    replace hm:=JT hq33 hm;exact aE 23 Q (aT [0,1,2,3,4] hm Q Q)
   refine WN [3,4,5,6,9,10,73] Q Q (bH hm Q (λh37 hm=>?_) (λh37 hm=>?_))
   ·refine aR 1 Q (SX Q Q (bV Q qL bX Q Q Q Q) (aE 9 Q (IE hm λv38 hm hz=>?_)));rw [hz11 _ hz] at hm;refine WR (bD 1 Q (IE hm λv39 hm hz=>?_));rw [hz3 _ hz] at hm;refine WR ?_;obtain⟨rfl,hmj0⟩:=Prod.mk.inj (Option.some.inj hm);obtain⟨rfl,rfl⟩:=Prod.mk.inj (hmj0);exact⟨_,.mk _ (.cons (.agg (TK.lay Q) Q Q Q Q) (.cons (.tmp 7) (.cons (.tmp 8) .nil))) Q,(.cons (.d _) (.refl _) (.cons (.d _) (.refl _) (.cons (.d _) (.refl _) .nil)))⟩
   refine aR 8 Q (VE hm λe40 he40 hm=>SX Q Q (bA TK Q Q Q Q he40) (aL 5 Q (bL hm Q (λh41 hm=>?_) (λh41 hm=>?_))))
   ·refine aR 3 Q (BE hm λr42 hr42 hm=>?_);obtain⟨r43,r44,r45⟩:=r42;refine SX Q Q (cT Q Q Q (qOI hr42)) (aL 8 Q (WN [6,7,8] Q Q (aM 4 Q (IE hm λv46 hm hz=>?_))));rw [hz11 _ hz] at hm;refine WR (bD 1 Q (IE hm λv47 hm hz=>?_));rw [hz3 _ hz] at hm;refine WR ?_;obtain⟨rfl,hmj0⟩:=Prod.mk.inj (Option.some.inj hm);obtain⟨rfl,rfl⟩:=Prod.mk.inj (hmj0);exact⟨_,.mk _ (.cons (.agg (TK.lay Q) Q Q Q Q) (.cons (.tmp 7) (.cons (.tmp 8) .nil))) Q,(.cons (.d _) (.refl _) (.cons (.d _) (.refl _) (.cons (.d _) (.refl _) .nil)))⟩
   refine bM 2 Q (bJ follows ?_);iterate 4 (refine DA [0,1,2,3,4] TK Q ?_)
   refine VE hm λe48 he48 hm=>DX [0,1,2,3,4] Q Q (bA TK Q Q Q Q he48) ?_;iterate 4 (refine DA [0,1,2,3,4] TK Q ?_)
   refine BE hm λr49 hr49 hm=>?_;obtain⟨r50,r51⟩:=r49;refine DX [0,1,2,3,4] Q Q (cT Q Q Q (qOM hr49)) ?_;iterate 4 (refine DA [0,1,2,3,4] TK Q ?_)
   refine DT ?_ (by kernel_rfl);exact aL 3 Q (WN [3,4,5,6,9,10,13] Q Q (aR 4 Q (SX Q Q (bV Q oI cR Q Q Q Q) (aL 4 Q (WN [3,4,5,6,9] Q Q (aR 2 Q (GE hm λg52 hm=>SX Q Q (bI Q Q Q Q g52) (aE 2 Q (aX [0,1,2,3] hm Q Q)))))))))
  refine aM 2 Q (IE hm λv53 hm hz=>?_);rw [hz11 _ hz] at hm;exact WX (bD 1 Q (aX [0,1,2,3] hm Q Q))
 obtain⟨c1,c2⟩:=j;refine WN [6] Q Q (aR 1 Q (SX Q Q (bV Q qL bX Q Q Q Q) (aE 6 Q ?_)));obtain⟨rfl,hmj0⟩:=Prod.mk.inj (Option.some.inj hm);obtain⟨rfl,rfl⟩:=Prod.mk.inj (hmj0);exact⟨_,.mk _ (.cons (.agg (TK.lay Q) Q Q Q Q) (.cons (.tmp 7) (.cons (.tmp 8) .nil))) Q,(.cons (.d _) (.refl _) (.cons (.d _) (.refl _) (.cons (.d _) (.refl _) .nil)))⟩
theorem qOG {p0:(List Aa)} {p1:Aa} {r:(List Aa)} (hm:sS p0 p1=some r):RetD TP 99 [.sl 2 (p0.map Aa.enc),p1.enc] (.sl 2 (r.map Aa.enc)):=by
 refine .of (mv:=λ_=>false) (aJ (aZ Q) func99 Q ntmps99 Q Q (λwX gX=>?_));unfold sS at hm;refine WN [0,1] Q Q (aO 1 Q (bR 0 Q Q Q (aG 7 Q (c_N hm (rL ·) Q Q Q Q λr1 hm=>aL 2 Q (bH hm Q (λh2 hm=>?_) (λh2 hm=>?_))))))
 ·refine aM 7 Q ?_;obtain rfl:=OJ hm;exact EndsS.one _ Q (.d _) (.refl _)
 refine aR 3 Q (cM (f:=Aa.enc) 1 126 2 Q Q Q (aL 6 Q (aP hm (λ(done3,b4)=>([(5,.msl 1 2 0 b4.length),(6,.d (.bool (done3)))])) (λ(done3,b4)=>([(1,.flat 126 2 (b4.map Aa.enc))])) [5,6] [3] Q (λz5 hm=>?_) (λj hm=>?_))))
 ·refine bN 5 Q (aV hm (λ(done11,i12,b13)=>([(5,.msl 1 2 0 b13.length),(6,.d (.bool (done11))),(7,.d (.int .i64 i12))])) (λ(done11,i12,b13)=>([(1,.flat 126 2 (b13.map Aa.enc))])) [5,6,7] [0,3] [0,1] Q k0 Q Q Q Q Q (λs z14 hm hz14=>?_));obtain⟨done11,i12,b13⟩:=s;refine WN [0,3,5,6,7] Q Q (aO 4 Q (SX Q Q (aN TK Q Q Q) (aL 3 Q (bL hm Q (λh15 hm=>?_) (λh15 hm=>?_)))))
  ·refine bM 4 Q (aP hm (λ(done16,b17)=>([(5,.msl 1 2 0 b17.length),(6,.d (.bool (done16)))])) (λ(done16,b17)=>([(1,.flat 126 2 (b17.map Aa.enc))])) [5,6] [0,3,7] Q (λz18 hm=>?_) (λj hm=>?_))
   ·refine aP hm (λx19=>([(29,.d (.bool (x19)))])) (λx19=>[]) [29] [0,3,5,6,7] Q (λz20 hm=>?_) (λx19 hm=>?_)
    ·refine cJ follows ?_;iterate 2 (refine DA [0,1] TK Q ?_)
     refine d_b [0,1] TK Q (λq21 hq21=>?_);cases q21
     ·replace hm:=JB hq21 hm;iterate 9 (refine DA [0,1] TK Q ?_)
      refine DT ?_ (by kernel_rfl);exact aE 1 Q (aT [0,1] hm Q Q)
     replace hm:=JA hq21 hm;iterate 2 (refine DA [0,1] TK Q ?_)
     refine VE hm λe22 he22 hm=>DX [0,1] Q Q (bA TK Q Q Q Q he22) ?_;iterate 6 (refine DA [0,1] TK Q ?_)
     refine DT ?_ (by kernel_rfl);exact aE 1 Q (aT [0,1] hm Q Q)
    refine WN [0,3,5,6,7,29] Q Q (bH hm Q (λh23 hm=>?_) (λh23 hm=>?_))
    ·exact aO 3 Q (SX Q Q (cF [.tmp 31] TK Q Q bX Q Q Q Q Q) (GE hm λg24 hm=>cB (f:=Aa.enc) ([p1]:List Aa) TK Q Q bX Q Q Q Q Q (λh=>absurd h (zQV _)) Q bZ g24 Q Q (aE 6 Q (aT [0,1] hm Q Q))))
    exact zAA 1 Q (aT [0,1] hm Q Q)
   obtain⟨done16,b17⟩:=j;exact WN [0,3,5,6,7] Q Q (aR 4 Q (VE hm λe25 he25 hm=>SX Q Q (bA TK Q Q Q Q he25) (aG 1 Q (SX Q Q (cF [.tmp 38] TK Q Q bX Q Q Q Q Q) (GE hm λg26 hm=>cB (f:=Aa.enc) ([e25]:List Aa) TK Q Q bX Q Q Q Q Q (λh=>absurd h (zQV _)) Q bZ g26 Q Q (aG 6 Q (GE hm λg27 hm=>SX Q Q (bI Q Q Q Q g27) (aE 2 Q (aX [0,1] hm Q Q)))))))))
  refine aM 2 Q (IE hm λv28 hm hz=>?_);rw [hz14 _ hz] at hm;exact WX (bD 1 Q (aT [0,1] hm Q Q))
 obtain⟨done3,b4⟩:=j;refine WN [3,5,6] Q Q (bM 6 Q (bH hm Q (λh29 hm=>?_) (λh29 hm=>?_)))
 ·refine aR 3 Q (SX Q Q (cF [.tmp 44] TK Q Q bX Q Q Q Q Q) (GE hm λg30 hm=>cB (f:=Aa.enc) ([p1]:List Aa) TK Q Q bX Q Q Q Q Q (λh=>absurd h (zQV _)) Q bZ g30 Q Q (aE 9 Q ?_)));obtain rfl:=OJ hm;exact EndsS.one _ Q (bQ Q) (.refl _)
 refine aM 8 Q ?_;obtain rfl:=OJ hm;exact EndsS.one _ Q (bQ Q) (.refl _)
theorem rN {p0:(List Int)} {p1:Int} {r:Bool} (hm:gK p0 p1=some r):RetN TP 116 [.sl 1 (p0.map (D.int .i64)),.int .i64 p1] (.bool (r)):=by
 refine .unit (aJ (aZ Q) func116 Q ntmps116 Q Q (λwX gX=>?_)) Q;unfold gK at hm;refine WN [0,1] Q Q (bN 4 Q (bF hm (λ_=>[]) (λ_=>[]) [] [] Q (λz1 hm hz1=>?_) (λj hm=>?_)))
 ·refine bN 5 Q (aV hm (λi3=>([(5,.d (.int .i64 i3))])) (λi3=>[]) [5] [0,1] [] Q k0 Q Q Q Q Q (λi3 z4 hm hz4=>WN [0,1,5] Q Q (aO 4 Q (SX Q Q (aN TK Q Q Q) (aL 3 Q (bL hm Q (λh5 hm=>?_) (λh5 hm=>?_)))))))
  ·refine aR 7 Q (VE hm λe6 he6 hm=>SX Q Q (bA TK Q Q Q Q he6) (aL 5 Q (bL hm Q (λh7 hm=>?_) (λh7 hm=>?_))))
   ·refine aM 7 Q (IE hm λv8 hm hz=>?_);rw [hz4 _ hz] at hm;refine WR (bD 1 Q (IE hm λv9 hm hz=>?_));rw [hz1 _ hz] at hm;exact WR (aS hm Q)
   exact aR 5 Q (GE hm λg10 hm=>SX Q Q (bI Q Q Q Q g10) (aE 2 Q (aX [] hm Q Q)))
  refine aM 2 Q (IE hm λv11 hm hz=>?_);rw [hz4 _ hz] at hm;exact WX (bD 1 Q (aX [] hm Q Q))
 exact WN [] Q Q (aM 5 Q (aS hm Q))
theorem qI {p0:(List Int)} {p1:Int} {r:(List Int)} (hm:eV p0 p1=some r):RetD TP 144 [.sl 1 (p0.map (D.int .i64)),.int .i64 p1] (.sl 1 (r.map (D.int .i64))):=by
 refine .of (mv:=λ_=>false) (aJ (aZ Q) func144 Q ntmps144 Q Q (λwX gX=>?_));unfold eV at hm;refine WN [0,1] Q Q (aO 8 Q (c_N hm (rN ·) Q Q Q Q λr1 hm=>aL 2 Q (bH hm Q (λh2 hm=>?_) (λh2 hm=>?_))))
 ·refine aM 7 Q ?_;obtain rfl:=OJ hm;exact EndsS.one _ Q (.d _) (.refl _)
 refine aR 3 Q (cM (f:=(D.int .i64)) 0 3 1 Q Q Q (aL 6 Q (aP hm (λ(done3,b4)=>([(5,.msl 0 1 0 b4.length),(6,.d (.bool (done3)))])) (λ(done3,b4)=>([(0,.flat 3 1 (b4.map (D.int .i64)))])) [5,6] [1] Q (λz5 hm=>?_) (λj hm=>?_))))
 ·refine bN 5 Q (aV hm (λ(done11,i12,b13)=>([(5,.msl 0 1 0 b13.length),(6,.d (.bool (done11))),(7,.d (.int .i64 i12))])) (λ(done11,i12,b13)=>([(0,.flat 3 1 (b13.map (D.int .i64)))])) [5,6,7] [0,1] [0] Q k0 Q Q Q Q Q (λs z14 hm hz14=>?_));obtain⟨done11,i12,b13⟩:=s;refine WN [0,1,5,6,7] Q Q (aO 4 Q (SX Q Q (aN TK Q Q Q) (aL 3 Q (bL hm Q (λh15 hm=>?_) (λh15 hm=>?_)))))
  ·refine bM 4 Q (aP hm (λ(done16,b17)=>([(5,.msl 0 1 0 b17.length),(6,.d (.bool (done16)))])) (λ(done16,b17)=>([(0,.flat 3 1 (b17.map (D.int .i64)))])) [5,6] [0,1,7] Q (λz18 hm=>?_) (λj hm=>?_))
   ·refine aP hm (λx19=>([(27,.d (.bool (x19)))])) (λx19=>[]) [27] [0,1,5,6,7] Q (λz20 hm=>?_) (λx19 hm=>?_)
    ·refine aO 3 Q (SB TK Q (λq21 hq21=>?_));cases q21
     ·replace hm:=JB hq21 hm;exact aE 8 Q (aT [0] hm Q Q)
     replace hm:=JA hq21 hm;exact aG 2 Q (VE hm λe22 he22 hm=>SX Q Q (bA TK Q Q Q Q he22) (aE 5 Q (aT [0] hm Q Q)))
    refine WN [0,1,5,6,7,27] Q Q (bH hm Q (λh23 hm=>?_) (λh23 hm=>?_))
    ·exact aO 3 Q (SX Q Q (cF [.tmp 29] TK Q Q dF Q Q Q Q Q) (GE hm λg24 hm=>cB (f:=(D.int .i64)) ([p1]:List Int) TK Q Q dF Q Q Q Q Q (λh=>absurd h (zQV _)) Q bZ g24 Q Q (aE 6 Q (aT [0] hm Q Q))))
    exact zAA 1 Q (aT [0] hm Q Q)
   obtain⟨done16,b17⟩:=j;exact WN [0,1,5,6,7] Q Q (aR 4 Q (VE hm λe25 he25 hm=>SX Q Q (bA TK Q Q Q Q he25) (aG 1 Q (SX Q Q (cF [.tmp 36] TK Q Q dF Q Q Q Q Q) (GE hm λg26 hm=>cB (f:=(D.int .i64)) ([e25]:List Int) TK Q Q dF Q Q Q Q Q (λh=>absurd h (zQV _)) Q bZ g26 Q Q (aG 6 Q (GE hm λg27 hm=>SX Q Q (bI Q Q Q Q g27) (aE 2 Q (aX [0] hm Q Q)))))))))
  refine aM 2 Q (IE hm λv28 hm hz=>?_);rw [hz14 _ hz] at hm;exact WX (bD 1 Q (aT [0] hm Q Q))
 obtain⟨done3,b4⟩:=j;refine WN [1,5,6] Q Q (bM 6 Q (bH hm Q (λh29 hm=>?_) (λh29 hm=>?_)))
 ·refine aR 3 Q (SX Q Q (cF [.tmp 42] TK Q Q dF Q Q Q Q Q) (GE hm λg30 hm=>cB (f:=(D.int .i64)) ([p1]:List Int) TK Q Q dF Q Q Q Q Q (λh=>absurd h (zQV _)) Q bZ g30 Q Q (aE 9 Q ?_)));obtain rfl:=OJ hm;exact EndsS.one _ Q (bQ Q) (.refl _)
 refine aM 8 Q ?_;obtain rfl:=OJ hm;exact EndsS.one _ Q (bQ Q) (.refl _)
theorem zQ {p0:(List Int)} {r:(List Int)} (hm:kW p0=some r):RetD TP 86 [.sl 1 (p0.map (D.int .i64))] (.sl 1 (r.map (D.int .i64))):=by
 refine .of (mv:=λ_=>false) (aJ (aZ Q) func86 Q ntmps86 Q Q (λwX gX=>?_));unfold kW at hm;refine WN [0] Q Q (bN 8 Q (uS 3 [some 1] Q (aP hm (λout1=>([(3,.d (.sl 1 (out1.map (D.int .i64))))])) (λout1=>[]) [3] [] Q (λz2 hm=>?_) (λout1 hm=>?_))))
 ·refine bN 5 Q (aV hm (λ(out5,i6)=>([(3,.d (.sl 1 (out5.map (D.int .i64)))),(4,.d (.int .i64 i6))])) (λ(out5,i6)=>[]) [3,4] [0] [] Q k0 Q Q Q Q Q (λs z7 hm hz7=>?_));obtain⟨out5,i6⟩:=s;refine WN [0,3,4] Q Q (aO 4 Q (SX Q Q (aN TK Q Q Q) (aL 3 Q (bL hm Q (λh8 hm=>?_) (λh8 hm=>?_)))))
  ·exact aR 8 Q (VE hm λe9 he9 hm=>SX Q Q (bA TK Q Q Q Q he9) (aG 1 Q (c_D hm (qI ·) Q Q Q Q λr10 hm=>aG 6 Q (GE hm λg11 hm=>SX Q Q (bI Q Q Q Q g11) (aE 2 Q (aX [] hm Q Q))))))
  refine aM 2 Q (IE hm λv12 hm hz=>?_);rw [hz7 _ hz] at hm;exact WX (bD 1 Q (aT [] hm Q Q))
 refine WN [3] Q Q (aM 6 Q ?_);obtain rfl:=OJ hm;exact EndsS.one _ Q (.d _) (.refl _)
theorem qIU {p0:(List Int)} {p1:(List Int)} {r:(List Int)} (hm:nU p0 p1=some r):RetD TP 100 [.sl 1 (p0.map (D.int .i64)),.sl 1 (p1.map (D.int .i64))] (.sl 1 (r.map (D.int .i64))):=by
 refine .of (mv:=λ_=>false) (aJ (aZ Q) func100 Q ntmps100 Q Q (λwX gX=>?_));unfold nU at hm;refine WN [0,1] Q Q (aO 6 Q (c_D hm (zQ ·) Q Q Q Q λr1 hm=>aL 3 Q (aP hm (λout2=>([(5,.d (.sl 1 (out2.map (D.int .i64))))])) (λout2=>[]) [5] [] Q (λz3 hm=>?_) (λout2 hm=>?_))))
 ·refine bN 5 Q (aV hm (λ(out6,i7)=>([(5,.d (.sl 1 (out6.map (D.int .i64)))),(6,.d (.int .i64 i7))])) (λ(out6,i7)=>[]) [5,6] [1] [] Q k0 Q Q Q Q Q (λs z8 hm hz8=>?_));obtain⟨out6,i7⟩:=s;refine WN [1,5,6] Q Q (aO 4 Q (SX Q Q (aN TK Q Q Q) (aL 3 Q (bL hm Q (λh9 hm=>?_) (λh9 hm=>?_)))))
  ·exact aR 8 Q (VE hm λe10 he10 hm=>SX Q Q (bA TK Q Q Q Q he10) (aG 1 Q (c_D hm (qI ·) Q Q Q Q λr11 hm=>aG 6 Q (GE hm λg12 hm=>SX Q Q (bI Q Q Q Q g12) (aE 2 Q (aX [] hm Q Q))))))
  refine aM 2 Q (IE hm λv13 hm hz=>?_);rw [hz8 _ hz] at hm;exact WX (bD 1 Q (aT [] hm Q Q))
 refine WN [5] Q Q (aM 6 Q ?_);obtain rfl:=OJ hm;exact EndsS.one _ Q (.d _) (.refl _)
theorem qLG {p0:Ag} {p1:Ai} {r:Ai} (hm:qA p0 p1=some r):RetD TP 50 [p0.enc,p1.enc] (r.enc):=by
 refine .of (mv:=λ_=>false) (aJ (aZ Q) func50 Q ntmps50 Q Q (λwX gX=>?_));unfold qA at hm;refine WN [0,1] Q Q (aO 1 Q (bR 0 Q Q Q (bR 1 Q Q Q (cK 2 Q Q dY Q (fP (f:=End.enc) 2 13 3 147 2 Q Q Q (cV 2 [none,none,none,some 3,some 2,some 1,none,none,some 3,some 2,some 1,some 2,some 1,none] Q Q (aG 5 Q (cV 1 [none,none,none,none,none,none,none,none,none,none,none,some 2,none,none] Q Q (aG 5 Q (cV 1 [none,none,none,none,none,none,none,none,none,none,none,none,some 1,none] Q Q (aG 5 Q (fP (f:=End.enc) 1 13 4 147 2 Q Q Q (aL 2 Q ?_)))))))))))));refine WN [2,3,4] Q Q (aR 3 Q (s_aggE 14 Q Q (c_D hm (qIQ ·) Q Q Q Q λr1 hm=>aL 3 Q (aP hm (λ(c2,c3,b4)=>[]) (λ(c2,c3,b4)=>([(1,.box 113 [.d (.str p1.name),.d (.int .i64 p1.entry),.d (.int .i64 p1.exit),.d (.sl 3 (p1.path.map An.enc)),.d (.sl 2 (p1.Ae.map Aa.enc)),.d (.sl 1 (p1.Ad.map (D.int .i64))),.d (.int .i64 p1.A2),.d (.int .i64 p1.length),.d (.sl 3 (p1.over.map An.enc)),.d (.sl 2 (p1.Aj.map Aa.enc)),.d (.sl 1 (p1.Ao.map (D.int .i64))),.d (.sl 2 (c2.map Aa.enc)),.d (.sl 1 (c3.map (D.int .i64))),.msl 4 2 0 b4.length]),(4,.flat 147 2 (b4.map End.enc))])) [] [3,4] Q (λz5 hm=>?_) (λj hm=>?_)))))
 ·refine bN 5 Q (aV hm (λ(i11,c12,c13,b14)=>([(6,.d (.int .i64 i11))])) (λ(i11,c12,c13,b14)=>([(1,.box 113 [.d (.str p1.name),.d (.int .i64 p1.entry),.d (.int .i64 p1.exit),.d (.sl 3 (p1.path.map An.enc)),.d (.sl 2 (p1.Ae.map Aa.enc)),.d (.sl 1 (p1.Ad.map (D.int .i64))),.d (.int .i64 p1.A2),.d (.int .i64 p1.length),.d (.sl 3 (p1.over.map An.enc)),.d (.sl 2 (p1.Aj.map Aa.enc)),.d (.sl 1 (p1.Ao.map (D.int .i64))),.d (.sl 2 (c12.map Aa.enc)),.d (.sl 1 (c13.map (D.int .i64))),.msl 4 2 0 b14.length]),(4,.flat 147 2 (b14.map End.enc))])) [6] [2,3,4,5] [0,1,2,3,4] Q k0 Q Q Q Q Q (λs z15 hm hz15=>?_));obtain⟨i11,c12,c13,b14⟩:=s;refine WN [2,3,4,5,6] Q Q (aO 4 Q (SX Q Q (aN TK Q Q Q) (aL 3 Q (bL hm Q (λh16 hm=>?_) (λh16 hm=>?_)))))
  ·refine bM 4 Q (cW (bJ follows (DA [0] TK Q (DA [1] TK Q ?_))));iterate 2 (refine DA [] TK Q ?_)
   refine VE hm λe17 he17 hm=>DX [] Q Q (bA TK Q Q Q Q he17) (DA [] TK Q (BE hm λr18 hr18 hm=>?_));obtain⟨r19,r20,r21⟩:=r18;refine DX [4] Q Q (qJT Q Q (SC (.d _) (SC (iA (.cons (.d _) Q (.cons (.d _) Q (.cons (.d _) Q (.cons (.d _) Q (.cons (.d _) Q (.cons (.d _) Q (.cons (.d _) Q (.cons (.d _) Q (.cons (.d _) Q (.cons (.d _) Q (.cons (.d _) Q (.cons (.d _) Q (.cons (.d _) Q (.cons (bQ Q) Q .nil))))))))))))))) (tM Q))) (qFL hr18) Q) ?_;iterate 4 (refine DA [] TK Q ?_)
   refine oJ [5] _ (.mptr 5 0 0 0) Q (eH Q) Q (lJ Q Q bX Q Q) (qQK 1000012 [5] [(5,.box 126 [.d (.int .i64 r19.el),.d (.int .i64 r19.pos)])] (eH Q) Q (uT TK Q Q Q Q Q Q Q Q Q Q) (DA [] TK Q ?_));refine DT ?_ (by kernel_rfl);refine aL 3 Q (WN [2,3,4,5,6,7,8,9] Q Q (aP hm (λb22=>[]) (λb22=>([(1,.box 113 [.d (.str p1.name),.d (.int .i64 p1.entry),.d (.int .i64 p1.exit),.d (.sl 3 (p1.path.map An.enc)),.d (.sl 2 (p1.Ae.map Aa.enc)),.d (.sl 1 (p1.Ad.map (D.int .i64))),.d (.int .i64 p1.A2),.d (.int .i64 p1.length),.d (.sl 3 (p1.over.map An.enc)),.d (.sl 2 (p1.Aj.map Aa.enc)),.d (.sl 1 (p1.Ao.map (D.int .i64))),.d (.sl 2 (c12.map Aa.enc)),.d (.sl 1 (c13.map (D.int .i64))),.msl 4 2 0 b22.length]),(4,.flat 147 2 (b22.map End.enc))])) [] [2,3,4,5,6,7,8] Q (λz23 hm=>?_) (λb22 hm=>?_)))
   ·refine bN 5 Q (bH hm Q (λh24 hm=>?_) (λh24 hm=>?_))
    ·refine cW (dC follows (DA [] TK Q (DA [1] TK Q ?_)));iterate 2 (refine DA [] TK Q ?_)
     refine VE hm λe25 he25 hm=>DX [] Q Q (bA TK Q Q Q Q he25) (DA [] TK Q (DX [] Q Q (cF [.tmp 40] TK Q Q cR Q Q Q Q Q) (GE hm λg26 hm=>oJ [4,6] _ (.msl 6 2 0 (b14++([e25]:List End)).length) Q (eH Q) Q (tL (f:=End.enc) (xs:=b14) ([e25]:List End) Q Q Q TK Q cR Q Q Q Q Q Q bZ g26) (DA [] TK Q ?_))));refine DT ?_ (by kernel_rfl);exact aE 2 Q (aT [0,1,2,3,6,5] hm Q Q)
    exact aM 1 Q (aT [0,1,2,3,4,5] hm Q Q)
   refine WN [2,3,4,5,6,7,8] Q Q (aP hm (λc27=>[]) (λc27=>([(1,.box 113 [.d (.str p1.name),.d (.int .i64 p1.entry),.d (.int .i64 p1.exit),.d (.sl 3 (p1.path.map An.enc)),.d (.sl 2 (p1.Ae.map Aa.enc)),.d (.sl 1 (p1.Ad.map (D.int .i64))),.d (.int .i64 p1.A2),.d (.int .i64 p1.length),.d (.sl 3 (p1.over.map An.enc)),.d (.sl 2 (p1.Aj.map Aa.enc)),.d (.sl 1 (p1.Ao.map (D.int .i64))),.d (.sl 2 (c27.map Aa.enc)),.d (.sl 1 (c13.map (D.int .i64))),.msl 4 2 0 b22.length])])) [] [2,3,4,5,6,8] Q (λz28 hm=>?_) (λc27 hm=>?_))
   ·refine bN 6 Q (eC hm Q (λh29 hm=>?_) (λh29 hm=>?_))
    ·exact aR 4 Q (c_D hm (qOG ·) Q Q Q Q λr30 hm=>aE 3 Q (aT [0,1,2,3,4,5] hm Q Q))
    exact aM 1 Q (aT [0,1,2,3,4,5] hm Q Q)
   refine WN [2,3,4,5,6,8] Q Q (bM 5 Q (bL hm Q (λh31 hm=>?_) (λh31 hm=>?_)))
   ·exact aR 4 Q (SX Q Q (cF [.tmp 56] TK Q Q dF Q Q Q Q Q) (c_D hm (qIU ·) Q Q Q Q λr32 hm=>aL 5 Q (WN [2,3,4,5,6] Q Q (aR 2 Q (GE hm λg33 hm=>SX Q Q (bI Q Q Q Q g33) (aE 2 Q (aX [0,1,2,3,4] hm Q Q)))))))
   exact aR 5 Q (GE hm λg34 hm=>SX Q Q (bI Q Q Q Q g34) (aE 2 Q (aX [0,1,2,3,4] hm Q Q)))
  refine aM 2 Q (IE hm λv35 hm hz=>?_);rw [hz15 _ hz] at hm;exact WX (bD 1 Q (aT [0,1,2,3,4] hm Q Q))
 obtain⟨c2,c3,b4⟩:=j;refine WN [3,4] Q Q (bM 5 Q (WN [4] Q Q (aM 1 Q ?_)));obtain rfl:=OJ hm;exact EndsS.cellR _ TK Q Q Q Q Q (iA (.cons (.d _) Q (.cons (.d _) Q (.cons (.d _) Q (.cons (.d _) Q (.cons (.d _) Q (.cons (.d _) Q (.cons (.d _) Q (.cons (.d _) Q (.cons (.d _) Q (.cons (.d _) Q (.cons (.d _) Q (.cons (.d _) Q (.cons (.d _) Q (.cons (bQ Q) Q .nil)))))))))))))))
theorem xU {p0:Ag} {r0:Al} {r1:Int} (hm:lE p0=some (r0,r1)):RetT TP 20 [p0.enc] [r0.enc,.int .i64 r1]:=by
 refine .of (mv:=λ_=>false) (dW (aZ Q) func20 Q ntmps20 Q Q (λwX gX=>?_));unfold lE at hm;refine WN [0] Q Q (aO 1 Q (bR 0 Q Q Q (cK 1 Q Q qBE Q (fP (f:=Ai.enc) 1 0 2 113 14 Q Q Q (fP (f:=(D.int .i64)) 1 2 3 3 1 Q Q Q (cV 1 [none,some 1,none,none,none] Q Q (aG 5 Q (BE hm λr1 hr1 hm=>?_))))))));obtain⟨r2,r3⟩:=r1;refine SX Q Q (cT Q Q Q (qOJ hr1)) (aL 13 Q (eC hm Q (λh4 hm=>?_) (λh4 hm=>?_)))
 ·refine aR 1 Q (SX Q Q (nW Q zGM qBE Q Q Q Q) (aG 2 Q (fP (f:=Ai.enc) 1 0 4 113 14 Q Q Q (fP (f:=(D.int .i64)) 1 2 5 3 1 Q Q Q (cV 1 [none,some 1,none,none,none] Q Q (aL 3 Q (WN [2,3] Q Q (aM 2 Q ?_))))))));obtain⟨rfl,rfl⟩:=Prod.mk.inj (Option.some.inj hm);exact⟨_,.mk _ (.cons (.agg (TK.lay Q) Q Q Q Q) (.cons (.tmp 3) .nil)) Q,(.cons (iA (.cons (bQ Q) Q (.cons (.d _) Q (.cons (bQ Q) Q (.cons (.d _) Q (.cons (.d _) Q .nil)))))) (.refl _) (.cons (.d _) (.refl _) .nil))⟩
 refine bM 2 Q (cW (bJ follows (DA [0] TK Q (jN [] hm (qFN ·) Q Q Q Q λr5 hm=>DA [] TK Q (DA [0] TK Q (DX [] Q Q (aN TK Q Q Q) (DA [] TK Q (DA [0] TK Q (DX [] Q Q (aN TK Q Q Q) (DX [] Q Q (nW Q zGM qBE Q Q Q Q) (oJ [4] _ (.mptr 4 0 0 0) Q (eH Q) Q (lJ Q Q qBE Q Q) ?_)))))))))));refine DT ?_ (by kernel_rfl);refine aG 1 Q (fP (f:=Ai.enc) 4 0 5 113 14 Q Q Q (fP (f:=(D.int .i64)) 4 2 6 3 1 Q Q Q (aL 2 Q (WN [1,2,4,6] Q Q (aP hm (λb6=>[]) (λb6=>([(4,.box 32 [.msl 5 14 0 b6.length,.d (.sl 1 (r5.map (D.int .i64))),.msl 6 1 0 ([]:List Int).length,.d (.int .i64 (p0.Ad.length:Int)),.d (.int .i64 (p0.Ah.length:Int))]),(5,.flat 113 14 (b6.map Ai.enc))])) [] [1,2,6] Q (λz7 hm=>?_) (λb6 hm=>?_))))))
 ·refine aO 2 Q (SX Q Q (aN TK Q Q Q) (aL 4 Q (aV hm (λ(x11,b12)=>([(31,.d (.int .i64 x11))])) (λ(x11,b12)=>([(4,.box 32 [.msl 5 14 0 b12.length,.d (.sl 1 (r5.map (D.int .i64))),.msl 6 1 0 ([]:List Int).length,.d (.int .i64 (p0.Ad.length:Int)),.d (.int .i64 (p0.Ah.length:Int))]),(5,.flat 113 14 (b12.map Ai.enc))])) [31] [1,2,6,29,30] [0,1,2,3,4,5,6] Q k0 Q Q Q Q Q (λs z13 hm hz13=>?_))));obtain⟨x11,b12⟩:=s;refine WN [1,2,6,29,30,31] Q Q (bN 5 Q (bL hm Q (λh14 hm=>?_) (λh14 hm=>?_)))
  ·refine aR 5 Q (VE hm λe15 he15 hm=>SX Q Q (bA TK Q Q Q Q he15) (aG 1 Q (cK 7 Q Q dY Q (cV 7 [none,none,none,some 3,some 2,some 1,none,none,some 3,some 2,some 1,some 2,some 1,some 2] Q Q (aL 3 Q (WN [1,2,6,8,29,30,31] Q Q (cW (dC follows (DA [] TK Q (DA [4] TK Q ?_))))))))));iterate 2 (refine DA [0] TK Q ?_)
   refine DA [7] TK Q (jN [] hm (qLI ·) Q Q Q Q λr16 hm=>jN [] hm (qLG ·) Q Q Q Q λr17 hm=>DX [] Q Q (cF [.tmp 41] TK Q Q dY Q Q Q Q Q) (GE hm λg18 hm=>oJ [5,8] _ (.msl 8 14 0 (b12++([r17]:List Ai)).length) Q (eH Q) Q (tL (f:=Ai.enc) (xs:=b12) ([r17]:List Ai) Q Q Q TK Q dY Q Q Q Q Q Q bZ g18) (DA [] TK Q ?_)));refine DT ?_ (by kernel_rfl);exact aL 4 Q (WN [1,2,6,29,30,31] Q Q (aR 1 Q (GE hm λg19 hm=>SX Q Q (bI Q Q Q Q g19) (aE 2 Q (aX [0,1,2,3,4,8,6] hm Q Q)))))
  refine aM 2 Q (IE hm λv20 hm hz=>?_);rw [hz13 _ hz] at hm;exact WX (bD 1 Q (aT [0,1,2,3,4,5,6] hm Q Q))
 refine WN [1,2,6] Q Q (aP hm (λb21=>[]) (λb21=>([(4,.box 32 [.msl 5 14 0 b6.length,.d (.sl 1 (r5.map (D.int .i64))),.msl 6 1 0 b21.length,.d (.int .i64 (p0.Ad.length:Int)),.d (.int .i64 (p0.Ah.length:Int))]),(6,.flat 3 1 (b21.map (D.int .i64)))])) [] [2,6] Q (λz22 hm=>?_) (λb21 hm=>?_))
 ·refine aO 3 Q (SX Q Q (aN TK Q Q Q) (aL 4 Q (aV hm (λ(x26,b27)=>([(49,.d (.int .i64 x26))])) (λ(x26,b27)=>([(4,.box 32 [.msl 5 14 0 b6.length,.d (.sl 1 (r5.map (D.int .i64))),.msl 6 1 0 b27.length,.d (.int .i64 (p0.Ad.length:Int)),.d (.int .i64 (p0.Ah.length:Int))]),(6,.flat 3 1 (b27.map (D.int .i64)))])) [49] [1,2,6,47,48] [0,1,2,3,4,5,6] Q k0 Q Q Q Q Q (λs z28 hm hz28=>?_))));obtain⟨x26,b27⟩:=s;refine WN [1,2,6,47,48,49] Q Q (bN 5 Q (bL hm Q (λh29 hm=>?_) (λh29 hm=>?_)))
  ·refine aR 5 Q (VE hm λe30 he30 hm=>SX Q Q (bA TK Q Q Q Q he30) (aL 4 Q (cW (dC follows (DA [] TK Q (DA [4] TK Q (DA [0] TK Q (DA [] TK Q (dK [] hm (fS ·) Q Q Q Q λr31 hm=>DX [] Q Q (cF [.tmp 57] TK Q Q dF Q Q Q Q Q) (GE hm λg32 hm=>oJ [6,7] _ (.msl 7 1 0 (b27++([r31]:List Int)).length) Q (eH Q) Q (tL (f:=(D.int .i64)) (xs:=b27) ([r31]:List Int) Q Q Q TK Q dF Q Q Q Q Q Q bZ g32) ?_))))))))));refine DA [] TK Q ?_;refine DT ?_ (by kernel_rfl);exact aL 4 Q (WN [1,2,6,47,48,49] Q Q (aR 1 Q (GE hm λg33 hm=>SX Q Q (bI Q Q Q Q g33) (aE 2 Q (aX [0,1,2,3,4,5,7] hm Q Q)))))
  refine aM 2 Q (IE hm λv34 hm hz=>?_);rw [hz28 _ hz] at hm;exact WX (bD 1 Q (aT [0,1,2,3,4,5,6] hm Q Q))
 refine WN [2,6] Q Q (bM 6 Q (WN [2,3] Q Q (aM 1 Q ?_)));obtain⟨rfl,rfl⟩:=Prod.mk.inj (Option.some.inj hm);exact⟨_,.mk _ (.cons (.agg (TK.lay Q) Q Q Q Q) (.cons (.tmp 3) .nil)) Q,(.cons (iA (.cons (bQ Q) Q (.cons (.d _) Q (.cons (bQ Q) Q (.cons (.d _) Q (.cons (.d _) Q .nil)))))) (.refl _) (.cons (.d _) (.refl _) .nil))⟩
theorem sX {p0:(List Int)} {p1:(List Int)} {r:Bool} (hm:gJ p0 p1=some r):RetN TP 53 [.sl 1 (p0.map (D.int .i64)),.sl 1 (p1.map (D.int .i64))] (.bool (r)):=by
 refine .unit (aJ (aZ Q) func53 Q ntmps53 Q Q (λwX gX=>?_)) Q;unfold gJ at hm;refine WN [0,1] Q Q (aO 7 Q (SX Q Q (aN TK Q Q Q) (aG 1 Q (SX Q Q (aN TK Q Q Q) (aL 3 Q (eC hm Q (λh1 hm=>?_) (λh1 hm=>?_)))))))
 ·exact aM 6 Q (aS hm Q)
 refine bM 2 Q (bF hm (λ_=>[]) (λ_=>[]) [] [] Q (λz2 hm hz2=>?_) (λj hm=>?_))
 ·refine aO 2 Q (SX Q Q (aN TK Q Q Q) (aL 4 Q (aV hm (λx4=>([(13,.d (.int .i64 x4))])) (λx4=>[]) [13] [0,1,12] [] Q k0 Q Q Q Q Q (λx4 z5 hm hz5=>WN [0,1,12,13] Q Q (bN 5 Q (bL hm Q (λh6 hm=>?_) (λh6 hm=>?_)))))))
  ·refine bM 9 Q (bJ follows ?_);iterate 2 (refine DA [] TK Q ?_)
   refine VE hm λe7 he7 hm=>DX [] Q Q (bA TK Q Q Q Q he7) ?_;iterate 3 (refine DA [] TK Q ?_)
   refine VE hm λe8 he8 hm=>DX [] Q Q (bA TK Q Q Q Q he8) ?_;iterate 2 (refine DA [] TK Q ?_)
   refine DT ?_ (by kernel_rfl);refine aL 2 Q (eC hm Q (λh9 hm=>?_) (λh9 hm=>?_))
   ·refine bM 4 Q (WN [4] Q Q (aM 3 Q (IE hm λv10 hm hz=>?_)));rw [hz5 _ hz] at hm;refine WR (bD 1 Q (IE hm λv11 hm hz=>?_));rw [hz2 _ hz] at hm;exact WR (aS hm Q)
   exact aR 4 Q (GE hm λg12 hm=>SX Q Q (bI Q Q Q Q g12) (aE 2 Q (aX [] hm Q Q)))
  refine aM 2 Q (IE hm λv13 hm hz=>?_);rw [hz5 _ hz] at hm;exact WX (bD 1 Q (aX [] hm Q Q))
 exact WN [] Q Q (aM 5 Q (aS hm Q))
theorem zN {p0:(List An)} {p1:(List An)} {r:Bool} (hm:kO p0 p1=some r):RetN TP 161 [.sl 3 (p0.map An.enc),.sl 3 (p1.map An.enc)] (.bool (r)):=by
 refine .unit (aJ (aZ Q) func161 Q ntmps161 Q Q (λwX gX=>?_)) Q;unfold kO at hm;refine WN [0,1] Q Q (aO 7 Q (SX Q Q (aN TK Q Q Q) (aG 1 Q (SX Q Q (aN TK Q Q Q) (aL 3 Q (eC hm Q (λh1 hm=>?_) (λh1 hm=>?_)))))))
 ·exact aM 6 Q (aS hm Q)
 refine bM 2 Q (bF hm (λ_=>[]) (λ_=>[]) [] [] Q (λz2 hm hz2=>?_) (λj hm=>?_))
 ·refine bN 5 Q (aV hm (λi4=>([(5,.d (.int .i64 i4))])) (λi4=>[]) [5] [0,1] [] Q k0 Q Q Q Q Q (λi4 z5 hm hz5=>WN [0,1,5] Q Q (aO 4 Q (SX Q Q (aN TK Q Q Q) (aL 3 Q (bL hm Q (λh6 hm=>?_) (λh6 hm=>?_)))))))
  ·refine bM 4 Q (bJ follows ?_);iterate 2 (refine DA [] TK Q ?_)
   refine VE hm λe7 he7 hm=>DX [] Q Q (bA TK Q Q Q Q he7) ?_;iterate 3 (refine DA [] TK Q ?_)
   refine VE hm λe8 he8 hm=>DX [] Q Q (bA TK Q Q Q Q he8) (DA [] TK Q (GE hm λg9 hm=>DX [] Q Q (zGB Q Q Q g9.1 g9.2) ?_));refine DT ?_ (by kernel_rfl);refine aL 2 Q (eC hm Q (λh11 hm=>?_) (λh11 hm=>?_))
   ·refine bM 4 Q (WN [4] Q Q (aM 3 Q (IE hm λv12 hm hz=>?_)));rw [hz5 _ hz] at hm;refine WR (bD 1 Q (IE hm λv13 hm hz=>?_));rw [hz2 _ hz] at hm;exact WR (aS hm Q)
   exact aR 5 Q (GE hm λg14 hm=>SX Q Q (bI Q Q Q Q g14) (aE 2 Q (aX [] hm Q Q)))
  refine aM 2 Q (IE hm λv15 hm hz=>?_);rw [hz5 _ hz] at hm;exact WX (bD 1 Q (aX [] hm Q Q))
 exact WN [] Q Q (aM 5 Q (aS hm Q))
theorem rM {p0:(List An)} {p1:(List An)} {r:Bool} (hm:fR p0 p1=some r):RetN TP 108 [.sl 3 (p0.map An.enc),.sl 3 (p1.map An.enc)] (.bool (r)):=by
 refine .unit (aJ (aZ Q) func108 Q ntmps108 Q Q (λwX gX=>?_)) Q;unfold fR at hm;exact WN [0,1] Q Q (aO 7 Q (c_N hm (zN ·) Q Q Q Q λr1 hm=>aE 4 Q (aS hm Q)))
theorem vI {p0:(List Aa)} {p1:(List Aa)} {r:Bool} (hm:gY p0 p1=some r):RetN TP 162 [.sl 2 (p0.map Aa.enc),.sl 2 (p1.map Aa.enc)] (.bool (r)):=by
 refine .unit (aJ (aZ Q) func162 Q ntmps162 Q Q (λwX gX=>?_)) Q;unfold gY at hm;refine WN [0,1] Q Q (aO 7 Q (SX Q Q (aN TK Q Q Q) (aG 1 Q (SX Q Q (aN TK Q Q Q) (aL 3 Q (eC hm Q (λh1 hm=>?_) (λh1 hm=>?_)))))))
 ·exact aM 6 Q (aS hm Q)
 refine bM 2 Q (bF hm (λ_=>[]) (λ_=>[]) [] [] Q (λz2 hm hz2=>?_) (λj hm=>?_))
 ·refine bN 5 Q (aV hm (λi4=>([(5,.d (.int .i64 i4))])) (λi4=>[]) [5] [0,1] [] Q k0 Q Q Q Q Q (λi4 z5 hm hz5=>WN [0,1,5] Q Q (aO 4 Q (SX Q Q (aN TK Q Q Q) (aL 3 Q (bL hm Q (λh6 hm=>?_) (λh6 hm=>?_)))))))
  ·refine bM 4 Q (bJ follows ?_);iterate 2 (refine DA [] TK Q ?_)
   refine VE hm λe7 he7 hm=>DX [] Q Q (bA TK Q Q Q Q he7) ?_;iterate 3 (refine DA [] TK Q ?_)
   refine VE hm λe8 he8 hm=>DX [] Q Q (bA TK Q Q Q Q he8) (DA [] TK Q (GE hm λg9 hm=>DX [] Q Q (yV Q Q Q g9.1 g9.2) ?_));refine DT ?_ (by kernel_rfl);refine aL 2 Q (eC hm Q (λh11 hm=>?_) (λh11 hm=>?_))
   ·refine bM 4 Q (WN [4] Q Q (aM 3 Q (IE hm λv12 hm hz=>?_)));rw [hz5 _ hz] at hm;refine WR (bD 1 Q (IE hm λv13 hm hz=>?_));rw [hz2 _ hz] at hm;exact WR (aS hm Q)
   exact aR 5 Q (GE hm λg14 hm=>SX Q Q (bI Q Q Q Q g14) (aE 2 Q (aX [] hm Q Q)))
  refine aM 2 Q (IE hm λv15 hm hz=>?_);rw [hz5 _ hz] at hm;exact WX (bD 1 Q (aX [] hm Q Q))
 exact WN [] Q Q (aM 5 Q (aS hm Q))
theorem jD {p0:(List Aa)} {p1:(List Aa)} {r:Bool} (hm:dT p0 p1=some r):RetN TP 109 [.sl 2 (p0.map Aa.enc),.sl 2 (p1.map Aa.enc)] (.bool (r)):=by
 refine .unit (aJ (aZ Q) func109 Q ntmps109 Q Q (λwX gX=>?_)) Q;unfold dT at hm;exact WN [0,1] Q Q (aO 7 Q (c_N hm (vI ·) Q Q Q Q λr1 hm=>aE 4 Q (aS hm Q)))
theorem qBV {p0:(List Int)} {p1:(List Int)} {r:Bool} (hm:lZ p0 p1=some r):RetN TP 163 [.sl 1 (p0.map (D.int .i64)),.sl 1 (p1.map (D.int .i64))] (.bool (r)):=by
 refine .unit (aJ (aZ Q) func163 Q ntmps163 Q Q (λwX gX=>?_)) Q;unfold lZ at hm;refine WN [0,1] Q Q (aO 7 Q (SX Q Q (aN TK Q Q Q) (aG 1 Q (SX Q Q (aN TK Q Q Q) (aL 3 Q (eC hm Q (λh1 hm=>?_) (λh1 hm=>?_)))))))
 ·exact aM 6 Q (aS hm Q)
 refine bM 2 Q (bF hm (λ_=>[]) (λ_=>[]) [] [] Q (λz2 hm hz2=>?_) (λj hm=>?_))
 ·refine bN 5 Q (aV hm (λi4=>([(5,.d (.int .i64 i4))])) (λi4=>[]) [5] [0,1] [] Q k0 Q Q Q Q Q (λi4 z5 hm hz5=>WN [0,1,5] Q Q (aO 4 Q (SX Q Q (aN TK Q Q Q) (aL 3 Q (bL hm Q (λh6 hm=>?_) (λh6 hm=>?_)))))))
  ·refine bM 4 Q (bJ follows ?_);iterate 2 (refine DA [] TK Q ?_)
   refine VE hm λe7 he7 hm=>DX [] Q Q (bA TK Q Q Q Q he7) ?_;iterate 3 (refine DA [] TK Q ?_)
   refine VE hm λe8 he8 hm=>DX [] Q Q (bA TK Q Q Q Q he8) ?_;iterate 2 (refine DA [] TK Q ?_)
   refine DT ?_ (by kernel_rfl);refine aL 2 Q (eC hm Q (λh9 hm=>?_) (λh9 hm=>?_))
   ·refine bM 4 Q (WN [4] Q Q (aM 3 Q (IE hm λv10 hm hz=>?_)));rw [hz5 _ hz] at hm;refine WR (bD 1 Q (IE hm λv11 hm hz=>?_));rw [hz2 _ hz] at hm;exact WR (aS hm Q)
   exact aR 5 Q (GE hm λg12 hm=>SX Q Q (bI Q Q Q Q g12) (aE 2 Q (aX [] hm Q Q)))
  refine aM 2 Q (IE hm λv13 hm hz=>?_);rw [hz5 _ hz] at hm;exact WX (bD 1 Q (aX [] hm Q Q))
 exact WN [] Q Q (aM 5 Q (aS hm Q))
theorem mQ {p0:(List Int)} {p1:(List Int)} {r:Bool} (hm:fF p0 p1=some r):RetN TP 110 [.sl 1 (p0.map (D.int .i64)),.sl 1 (p1.map (D.int .i64))] (.bool (r)):=by
 refine .unit (aJ (aZ Q) func110 Q ntmps110 Q Q (λwX gX=>?_)) Q;unfold fF at hm;exact WN [0,1] Q Q (aO 7 Q (c_N hm (qBV ·) Q Q Q Q λr1 hm=>aE 4 Q (aS hm Q)))
theorem qBU {p0:(List End)} {p1:(List End)} {r:Bool} (hm:jC p0 p1=some r):RetN TP 111 [.sl 2 (p0.map End.enc),.sl 2 (p1.map End.enc)] (.bool (r)):=by
 refine .unit (aJ (aZ Q) func111 Q ntmps111 Q Q (λwX gX=>?_)) Q;unfold jC at hm;refine WN [0,1] Q Q (aO 7 Q (SX Q Q (aN TK Q Q Q) (aG 1 Q (SX Q Q (aN TK Q Q Q) (aL 3 Q (eC hm Q (λh1 hm=>?_) (λh1 hm=>?_)))))))
 ·exact aM 6 Q (aS hm Q)
 refine bM 2 Q (bF hm (λ_=>[]) (λ_=>[]) [] [] Q (λz2 hm hz2=>?_) (λj hm=>?_))
 ·refine bN 5 Q (aV hm (λi4=>([(5,.d (.int .i64 i4))])) (λi4=>[]) [5] [0,1] [] Q k0 Q Q Q Q Q (λi4 z5 hm hz5=>WN [0,1,5] Q Q (aO 4 Q (SX Q Q (aN TK Q Q Q) (aL 3 Q (bL hm Q (λh6 hm=>?_) (λh6 hm=>?_)))))))
  ·refine bM 4 Q (bJ follows ?_);iterate 2 (refine DA [] TK Q ?_)
   refine VE hm λe7 he7 hm=>DX [] Q Q (bA TK Q Q Q Q he7) ?_;iterate 3 (refine DA [] TK Q ?_)
   refine VE hm λe8 he8 hm=>DX [] Q Q (bA TK Q Q Q Q he8) (DA [] TK Q (GE hm λg9 hm=>DX [] Q Q (End_ne Q Q Q g9.1 g9.2) ?_));refine DT ?_ (by kernel_rfl);refine aL 2 Q (eC hm Q (λh11 hm=>?_) (λh11 hm=>?_))
   ·refine bM 4 Q (WN [4] Q Q (aM 3 Q (IE hm λv12 hm hz=>?_)));rw [hz5 _ hz] at hm;refine WR (bD 1 Q (IE hm λv13 hm hz=>?_));rw [hz2 _ hz] at hm;exact WR (aS hm Q)
   exact aR 5 Q (GE hm λg14 hm=>SX Q Q (bI Q Q Q Q g14) (aE 2 Q (aX [] hm Q Q)))
  refine aM 2 Q (IE hm λv15 hm hz=>?_);rw [hz5 _ hz] at hm;exact WX (bD 1 Q (aX [] hm Q Q))
 exact WN [] Q Q (aM 5 Q (aS hm Q))
theorem qLJ {p0:Ai} {p1:Ai} {r:Bool} (hm:qC p0 p1=some r):RetN TP 54 [p0.enc,p1.enc] (.bool (r)):=by
 refine .unit (aJ (aZ Q) func54 Q ntmps54 Q Q (λwX gX=>?_)) Q;unfold qC at hm;refine WN [0,1] Q Q (aO 1 Q (bR 0 Q Q Q (bR 1 Q Q Q (aL 4 Q ?_))));refine cI [(37,.d (.bool (((!(decide (p0.name=p1.name)))||((!(decide (p0.entry=p1.entry)))||((!(decide (p0.exit=p1.exit)))||((!(decide (p0.A2=p1.A2)))||(!(decide (p0.length=p1.length))))))))))] [37] [2,3] Q ?_ ?_
 ·refine aO 6 Q (SB TK Q (λq1 hq1=>?_));cases q1
  ·refine aG 6 Q (SB TK Q (λq2 hq2=>?_));cases q2
   ·refine aG 6 Q (SB TK Q (λq3 hq3=>?_));cases q3
    ·refine aG 6 Q (SB TK Q (λq4 hq4=>?_));cases q4
     ·refine aE 7 Q ?_;exact⟨[0,1],Q,k0,aW (aI (aK (by first|(simp [hq1,hq2,hq3,hq4];done)|(simp only [hq1,hq2,hq3,hq4];simp))) Q) Q⟩
     refine aE 7 Q ?_;exact⟨[0,1],Q,k0,aW (aI (aK (by first|(simp [hq1,hq2,hq3,hq4];done)|(simp only [hq1,hq2,hq3,hq4];simp))) Q) Q⟩
    refine aE 14 Q ?_;exact⟨[0,1],Q,k0,aW (aI (aK (by first|(simp [hq1,hq2,hq3];done)|(simp only [hq1,hq2,hq3];simp))) Q) Q⟩
   refine aE 21 Q ?_;exact⟨[0,1],Q,k0,aW (aI (aK (by first|(simp [hq1,hq2];done)|(simp only [hq1,hq2];simp))) Q) Q⟩
  refine aE 28 Q ?_;exact⟨[0,1],Q,k0,aW (aI (aK (by first|(simp [hq1];done)|(simp only [hq1];simp))) Q) Q⟩
 refine WN [2,3,37] Q Q (bH hm Q (λh5 hm=>?_) (λh5 hm=>?_))
 ·exact aM 6 Q (aS hm Q)
 refine bM 3 Q (aP hm (λx6=>([(59,.d (.bool (x6)))])) (λx6=>[]) [59] [2,3] Q (λz7 hm=>?_) (λx6 hm=>?_))
 ·refine aO 5 Q (c_N hm (rM ·) Q Q Q Q λr8 hm=>aG 1 Q (SB TK Q (λq9 hq9=>?_)));cases q9
  ·replace hm:=JB hq9 hm;refine aG 4 Q (c_N hm (jD ·) Q Q Q Q λr10 hm=>aG 2 Q (SB TK Q (λq11 hq11=>?_)));cases q11
   ·replace hm:=JB hq11 hm;exact aG 4 Q (c_N hm (mQ ·) Q Q Q Q λr12 hm=>aE 3 Q (aT [0,1] hm Q Q))
   replace hm:=JA hq11 hm;exact aE 8 Q (aT [0,1] hm Q Q)
  replace hm:=JA hq9 hm;exact aE 16 Q (aT [0,1] hm Q Q)
 refine WN [2,3,59] Q Q (bH hm Q (λh13 hm=>?_) (λh13 hm=>?_))
 ·exact aM 6 Q (aS hm Q)
 refine bM 2 Q (aP hm (λx14=>([(4,.d (.bool (x14)))])) (λx14=>[]) [4] [] Q (λz15 hm=>?_) (λx14 hm=>?_))
 ·refine aO 5 Q (c_N hm (rM ·) Q Q Q Q λr16 hm=>SB TK Q (λq17 hq17=>?_));cases q17
  ·replace hm:=JB hq17 hm;exact aE 36 Q (aT [0,1] hm Q Q)
  replace hm:=JA hq17 hm;refine aG 4 Q (c_N hm (jD ·) Q Q Q Q λr18 hm=>aG 1 Q (SB TK Q (λq19 hq19=>?_)));cases q19
  ·replace hm:=JB hq19 hm;exact aE 29 Q (aT [0,1] hm Q Q)
  replace hm:=JA hq19 hm;refine aG 4 Q (c_N hm (mQ ·) Q Q Q Q λr20 hm=>aG 1 Q (SB TK Q (λq21 hq21=>?_)));cases q21
  ·replace hm:=JB hq21 hm;exact aE 22 Q (aT [0,1] hm Q Q)
  replace hm:=JA hq21 hm;refine aG 4 Q (c_N hm (jD ·) Q Q Q Q λr22 hm=>aG 1 Q (SB TK Q (λq23 hq23=>?_)));cases q23
  ·replace hm:=JB hq23 hm;exact aE 15 Q (aT [0,1] hm Q Q)
  replace hm:=JA hq23 hm;refine aG 4 Q (c_N hm (mQ ·) Q Q Q Q λr24 hm=>aG 1 Q (SB TK Q (λq25 hq25=>?_)));cases q25
  ·replace hm:=JB hq25 hm;exact aE 8 Q (aT [0,1] hm Q Q)
  replace hm:=JA hq25 hm;exact aG 4 Q (c_N hm (qBU ·) Q Q Q Q λr26 hm=>aE 3 Q (aT [0,1] hm Q Q))
 exact WN [4] Q Q (aM 1 Q (aS hm Q))
theorem qLE {p0:Al} {p1:Al} {r:Bool} (hm:pZ p0 p1=some r):RetN TP 21 [p0.enc,p1.enc] (.bool (r)):=by
 refine .unit (aJ (aZ Q) func21 Q ntmps21 Q Q (λwX gX=>?_)) Q;unfold pZ at hm;refine WN [0,1] Q Q (aO 1 Q (bR 0 Q Q Q (bR 1 Q Q Q (aL 4 Q (aP hm (λx1=>([(42,.d (.bool (x1)))])) (λx1=>[]) [42] [2,3] Q (λz2 hm=>?_) (λx1 hm=>?_))))))
 ·refine aO 3 Q (SX Q Q (aN TK Q Q Q) (aG 2 Q (SX Q Q (aN TK Q Q Q) (aG 1 Q (SB TK Q (λq3 hq3=>?_))))));cases q3
  ·replace hm:=eM hq3 hm;refine aG 4 Q (c_N hm (sX ·) Q Q Q Q λr4 hm=>aG 2 Q (SB TK Q (λq5 hq5=>?_)));cases q5
   ·replace hm:=JB hq5 hm;refine aG 4 Q (c_N hm (sX ·) Q Q Q Q λr6 hm=>aG 2 Q (SB TK Q (λq7 hq7=>?_)));cases q7
    ·replace hm:=JB hq7 hm;refine aG 6 Q (SB TK Q (λq8 hq8=>?_));cases q8
     ·replace hm:=eM hq8 hm;exact aE 7 Q (aT [0,1] hm Q Q)
     replace hm:=eL hq8 hm;exact aE 7 Q (aT [0,1] hm Q Q)
    replace hm:=JA hq7 hm;exact aE 14 Q (aT [0,1] hm Q Q)
   replace hm:=JA hq5 hm;exact aE 22 Q (aT [0,1] hm Q Q)
  replace hm:=eL hq3 hm;exact aE 30 Q (aT [0,1] hm Q Q)
 refine WN [2,3,42] Q Q (bH hm Q (λh9 hm=>?_) (λh9 hm=>?_))
 ·exact aM 6 Q (aS hm Q)
 refine bM 2 Q (bF hm (λ_=>[]) (λ_=>[]) [] [] Q (λz10 hm hz10=>?_) (λj hm=>?_))
 ·refine aO 3 Q (SX Q Q (aN TK Q Q Q) (aL 4 Q (aV hm (λx12=>([(46,.d (.int .i64 x12))])) (λx12=>[]) [46] [2,3,45] [0,1] Q k0 Q Q Q Q Q (λx12 z13 hm hz13=>WN [2,3,45,46] Q Q (bN 5 Q (bL hm Q (λh14 hm=>?_) (λh14 hm=>?_)))))))
  ·refine bM 9 Q (bJ follows ?_);iterate 3 (refine DA [0,1] TK Q ?_)
   refine VE hm λe15 he15 hm=>DX [0,1] Q Q (bA TK Q Q Q Q he15) ?_;iterate 4 (refine DA [0,1] TK Q ?_)
   refine VE hm λe16 he16 hm=>DX [0,1] Q Q (bA TK Q Q Q Q he16) (DA [0,1] TK Q (dK [0,1] hm (qLJ ·) Q Q Q Q λr17 hm=>DA [0,1] TK Q ?_));refine DT ?_ (by kernel_rfl);refine aL 2 Q (bH hm Q (λh18 hm=>?_) (λh18 hm=>?_))
   ·refine bM 4 Q (WN [4] Q Q (aM 3 Q (IE hm λv19 hm hz=>?_)));rw [hz13 _ hz] at hm;refine WR (bD 1 Q (IE hm λv20 hm hz=>?_));rw [hz10 _ hz] at hm;exact WR (aS hm Q)
   exact bM 3 Q (WN [2,3,45,46] Q Q (aR 1 Q (GE hm λg21 hm=>SX Q Q (bI Q Q Q Q g21) (aE 2 Q (aX [0,1] hm Q Q)))))
  refine aM 2 Q (IE hm λv22 hm hz=>?_);rw [hz13 _ hz] at hm;exact WX (bD 1 Q (aX [0,1] hm Q Q))
 exact WN [] Q Q (aM 5 Q (aS hm Q))
theorem qBS {p0:Al} {p1:(List Int)} {r:Bool} (hm:iZ p0 p1=some r):RetN TP 190 [p0.enc,.sl 1 (p1.map (D.int .i64))] (.bool (r)):=by
 refine .unit (aJ (aZ Q) func190 Q ntmps190 Q Q (λwX gX=>?_)) Q;unfold iZ at hm;refine WN [0,1] Q Q (aO 1 Q (bR 0 Q Q Q (aL 3 Q (bF hm (λ_=>[]) (λ_=>[]) [] [] Q (λz1 hm hz1=>?_) (λj hm=>?_)))))
 ·refine aO 2 Q (SX Q Q (aN TK Q Q Q) (aL 4 Q (aV hm (λx3=>([(10,.d (.int .i64 x3))])) (λx3=>[]) [10] [1,2,8,9] [0] Q k0 Q Q Q Q Q (λx3 z4 hm hz4=>WN [1,2,8,9,10] Q Q (bN 5 Q (bL hm Q (λh5 hm=>?_) (λh5 hm=>?_)))))))
  ·refine bM 2 Q (bF hm (λ_=>[]) (λ_=>[]) [] [1,2,8,9,10] Q (λz6 hm hz6=>?_) (λj hm=>?_))
   ·refine aO 3 Q (VE hm λe7 he7 hm=>SX Q Q (bA TK Q Q Q Q he7) (aL 6 Q ?_));refine cI [(22,.d (.bool (((decide (e7 < (0:Int)))||(decide (p0.Ad<=e7))))))] [22] [1,2,5,6,8,9,10] Q ?_ ?_
    ·refine aO 3 Q (SB TK Q (λq8 hq8=>?_));cases q8
     ·refine aE 6 Q ?_;exact⟨[0],Q,k0,aW (aI (aK (by first|(simp [hq8];done)|(simp only [hq8];simp))) Q) Q⟩
     refine aE 6 Q ?_;exact⟨[0],Q,k0,aW (aI (aK (by first|(simp [hq8];done)|(simp only [hq8];simp))) Q) Q⟩
    refine WN [1,2,5,6,8,9,10,22] Q Q (bH hm Q (λh9 hm=>?_) (λh9 hm=>?_))
    ·refine aM 7 Q (IE hm λv10 hm hz=>?_);rw [hz6 _ hz] at hm;refine WR (IE hm λv11 hm hz=>?_);rw [hz4 _ hz] at hm;refine WR (bD 1 Q (IE hm λv12 hm hz=>?_));rw [hz1 _ hz] at hm;exact WR (aS hm Q)
    refine bM 8 Q (aV hm (λx14=>([(24,.d (.int .i64 x14))])) (λx14=>[]) [24] [1,2,6,8,9,10,23] [0] Q k0 Q Q Q Q Q (λx14 z15 hm hz15=>WN [1,2,6,8,9,10,23,24] Q Q (bN 5 Q (bL hm Q (λh16 hm=>?_) (λh16 hm=>?_)))))
    ·refine aR 12 Q (VE hm λe17 he17 hm=>SX Q Q (bA TK Q Q Q Q he17) (aL 5 Q (bL hm Q (λh18 hm=>?_) (λh18 hm=>?_))))
     ·refine bM 4 Q (WN [4] Q Q (aM 3 Q (IE hm λv19 hm hz=>?_)));rw [hz15 _ hz] at hm;refine WR (bD 2 Q (IE hm λv20 hm hz=>?_));rw [hz6 _ hz] at hm;refine WR (IE hm λv21 hm hz=>?_);rw [hz4 _ hz] at hm;refine WR (bD 1 Q (IE hm λv22 hm hz=>?_));rw [hz1 _ hz] at hm;exact WR (aS hm Q)
     exact aR 4 Q (GE hm λg23 hm=>SX Q Q (bI Q Q Q Q g23) (aE 2 Q (aX [0] hm Q Q)))
    refine aM 2 Q (IE hm λv24 hm hz=>?_);rw [hz15 _ hz] at hm;exact WX (bD 2 Q (aX [0] hm Q Q))
   exact WN [1,2,8,9,10] Q Q (aR 1 Q (GE hm λg25 hm=>SX Q Q (bI Q Q Q Q g25) (aE 2 Q (aX [0] hm Q Q))))
  refine aM 2 Q (IE hm λv26 hm hz=>?_);rw [hz4 _ hz] at hm;exact WX (bD 1 Q (aX [0] hm Q Q))
 exact WN [] Q Q (aM 5 Q (aS hm Q))
theorem qIO {p0:Al} {p1:Ai} {r:Bool} (hm:lC p0 p1=some r):RetN TP 164 [p0.enc,p1.enc] (.bool (r)):=by
 refine .unit (aJ (aZ Q) func164 Q ntmps164 Q Q (λwX gX=>?_)) Q;unfold lC at hm;refine WN [0,1] Q Q (aO 1 Q (bR 0 Q Q Q (bR 1 Q Q Q (aL 4 Q ?_))));refine cI [(44,.d (.bool (((decide (p1.entry < (0:Int)))||((decide (p0.Ah<=p1.entry))||((decide (p1.exit < (-1:Int)))||((decide (p0.Ah<=p1.exit))||((decide ((p1.path.length:Int) < (1:Int)))||((decide ((12:Int) < (p1.path.length:Int)))||(decide (p1.length < (1:Int))))))))))))] [44] [2,3] Q ?_ ?_
 ·refine aO 4 Q (SB TK Q (λq1 hq1=>?_));cases q1
  ·refine aG 6 Q (SB TK Q (λq2 hq2=>?_));cases q2
   ·refine aG 4 Q (SB TK Q (λq3 hq3=>?_));cases q3
    ·refine aG 6 Q (SB TK Q (λq4 hq4=>?_));cases q4
     ·refine aG 2 Q (SX Q Q (aN TK Q Q Q) (aG 2 Q (SB TK Q (λq5 hq5=>?_))));cases q5
      ·refine aG 2 Q (SX Q Q (aN TK Q Q Q) (aG 2 Q (SB TK Q (λq6 hq6=>?_))));cases q6
       ·refine aE 5 Q ?_;exact⟨[0,1],Q,k0,aW (aI (aK (by first|(simp [hq1,hq2,hq3,hq4,hq5,hq6];done)|(simp only [hq1,hq2,hq3,hq4,hq5,hq6];simp))) Q) Q⟩
       refine aE 5 Q ?_;exact⟨[0,1],Q,k0,aW (aI (aK (by first|(simp [hq1,hq2,hq3,hq4,hq5,hq6];done)|(simp only [hq1,hq2,hq3,hq4,hq5,hq6];simp))) Q) Q⟩
      refine aE 11 Q ?_;exact⟨[0,1],Q,k0,aW (aI (aK (by first|(simp [hq1,hq2,hq3,hq4,hq5];done)|(simp only [hq1,hq2,hq3,hq4,hq5];simp))) Q) Q⟩
     refine aE 17 Q ?_;exact⟨[0,1],Q,k0,aW (aI (aK (by first|(simp [hq1,hq2,hq3,hq4];done)|(simp only [hq1,hq2,hq3,hq4];simp))) Q) Q⟩
    refine aE 24 Q ?_;exact⟨[0,1],Q,k0,aW (aI (aK (by first|(simp [hq1,hq2,hq3];done)|(simp only [hq1,hq2,hq3];simp))) Q) Q⟩
   refine aE 29 Q ?_;exact⟨[0,1],Q,k0,aW (aI (aK (by first|(simp [hq1,hq2];done)|(simp only [hq1,hq2];simp))) Q) Q⟩
  refine aE 36 Q ?_;exact⟨[0,1],Q,k0,aW (aI (aK (by first|(simp [hq1];done)|(simp only [hq1];simp))) Q) Q⟩
 refine WN [2,3,44] Q Q (bH hm Q (λh7 hm=>?_) (λh7 hm=>?_))
 ·exact aM 6 Q (aS hm Q)
 refine aR 3 Q (cM (f:=(D.int .i64)) 2 3 1 Q Q Q (aG 6 Q (GE hm λg8 hm=>cB (f:=(D.int .i64)) p1.Ad TK Q Q dF Q Q Q Q Q (λh=>absurd h (zQV _)) Q bZ g8 Q Q (aG 7 Q (GE hm λg9 hm=>cB (f:=(D.int .i64)) p1.Ao TK Q Q dF Q Q Q Q Q (λh=>absurd h (zQV _)) Q bZ g9 Q Q (aL 3 Q (aP hm (λx10=>([(4,.d (.bool (x10)))])) (λx10=>[]) [4] [] Q (λz11 hm=>?_) (λx10 hm=>?_))))))))
 ·refine aO 3 Q (SX Q Q (aN TK Q Q Q) (aG 1 Q (SB TK Q (λq12 hq12=>?_))));cases q12
  ·replace hm:=JF hq12 hm;exact aE 18 Q (aT [0,1,2] hm Q Q)
  replace hm:=JT hq12 hm;refine aG 2 Q (BE hm λr13 hr13 hm=>SX Q Q (RN Q Q (SC (.d _) (SC (bQ Q) SN)) (qBS hr13)) (aG 1 Q (SB TK Q (λq14 hq14=>?_))));cases q14
  ·replace hm:=JB hq14 hm;exact aE 13 Q (aT [0,1,2] hm Q Q)
  replace hm:=JA hq14 hm;refine aG 4 Q (SB TK Q (λq15 hq15=>?_));cases q15
  ·replace hm:=JF hq15 hm;exact aE 8 Q (aT [0,1,2] hm Q Q)
  replace hm:=JT hq15 hm;exact aE 8 Q (aT [0,1,2] hm Q Q)
 exact WN [4] Q Q (aM 1 Q (aS hm Q))
theorem sD {p0:Al} {p1:Int} {r:Int} (hm:jB p0 p1=some r):RetN TP 57 [p0.enc,.int .i64 p1] (.int .i64 r):=by
 refine .unit (aJ (aZ Q) func57 Q ntmps57 Q Q (λwX gX=>?_)) Q;unfold jB at hm;refine WN [0,1] Q Q (aO 1 Q (bR 0 Q Q Q (aL 3 Q (bF hm (λ_=>[]) (λ_=>[]) [] [] Q (λz1 hm hz1=>?_) (λj hm=>?_)))))
 ·refine aO 3 Q (SX Q Q (aN TK Q Q Q) (aL 4 Q (aV hm (λx3=>([(10,.d (.int .i64 x3))])) (λx3=>[]) [10] [1,8,9] [0] Q k0 Q Q Q Q Q (λx3 z4 hm hz4=>WN [1,8,9,10] Q Q (bN 5 Q (bL hm Q (λh5 hm=>?_) (λh5 hm=>?_)))))))
  ·refine aR 6 Q (VE hm λe6 he6 hm=>SX Q Q (bA TK Q Q Q Q he6) (aL 11 Q (bL hm Q (λh7 hm=>?_) (λh7 hm=>?_))))
   ·refine aM 8 Q (IE hm λv8 hm hz=>?_);rw [hz4 _ hz] at hm;refine WR (bD 1 Q (IE hm λv9 hm hz=>?_));rw [hz1 _ hz] at hm;exact WR (aS hm Q)
   exact aR 4 Q (GE hm λg10 hm=>SX Q Q (bI Q Q Q Q g10) (aE 2 Q (aX [0] hm Q Q)))
  refine aM 2 Q (IE hm λv11 hm hz=>?_);rw [hz4 _ hz] at hm;exact WX (bD 1 Q (aX [0] hm Q Q))
 exact WN [] Q Q (aM 5 Q (aS hm Q))
theorem mN {p0:Al} {p1:(List Aa)} {r:Bool} (hm:dO p0 p1=some r):RetN TP 165 [p0.enc,.sl 2 (p1.map Aa.enc)] (.bool (r)):=by
 refine .unit (aJ (aZ Q) func165 Q ntmps165 Q Q (λwX gX=>?_)) Q;unfold dO at hm;refine WN [0,1] Q Q (aO 1 Q (bR 0 Q Q Q (aL 3 Q (bF hm (λ_=>[]) (λ_=>[]) [] [] Q (λz1 hm hz1=>?_) (λj hm=>?_)))))
 ·refine aO 2 Q (SX Q Q (aN TK Q Q Q) (aL 4 Q (aV hm (λx3=>([(9,.d (.int .i64 x3))])) (λx3=>[]) [9] [1,2,7,8] [0] Q k0 Q Q Q Q Q (λx3 z4 hm hz4=>WN [1,2,7,8,9] Q Q (bN 5 Q (bL hm Q (λh5 hm=>?_) (λh5 hm=>?_)))))))
  ·refine aR 6 Q (VE hm λe6 he6 hm=>SX Q Q (bA TK Q Q Q Q he6) (aG 1 Q (cK 1 Q Q bX Q (aL 4 Q (aP hm (λx7=>([(43,.d (.bool (x7)))])) (λx7=>[]) [43] [1,2,7,8,9] Q (λz8 hm=>?_) (λx7 hm=>?_))))))
   ·refine cJ follows ?_;iterate 3 (refine DA [0,1] TK Q ?_)
    refine dK [0,1] hm (sD ·) Q Q Q Q λr9 hm=>DA [0,1] TK Q (d_b [0,1] TK Q (λq10 hq10=>?_));cases q10
    ·replace hm:=JF hq10 hm;iterate 4 (refine DA [0,1] TK Q ?_)
     refine d_b [0,1] TK Q (λq11 hq11=>?_);cases q11
     ·replace hm:=JF hq11 hm;iterate 4 (refine DA [0,1] TK Q ?_)
      refine d_b [0,1] TK Q (λq12 hq12=>?_);cases q12
      ·replace hm:=JF hq12 hm;iterate 2 (refine DA [0,1] TK Q ?_)
       refine d_b [0,1] TK Q (λq13 hq13=>?_);cases q13
       ·replace hm:=JF hq13 hm;iterate 11 (refine DA [0,1] TK Q ?_)
        refine DT ?_ (by kernel_rfl);exact aE 1 Q (aT [0,1] hm Q Q)
       replace hm:=JT hq13 hm;iterate 2 (refine DA [0,1] TK Q ?_)
       refine GE hm λg14 hm=>DX [0,1] Q Q (bI Q Q Q Q g14) (VE hm λe15 he15 hm=>DX [0,1] Q Q (bA TK Q Q Q Q he15) ?_);iterate 7 (refine DA [0,1] TK Q ?_)
       refine DT ?_ (by kernel_rfl);exact aE 1 Q (aT [0,1] hm Q Q)
      replace hm:=JT hq12 hm;iterate 14 (refine DA [0,1] TK Q ?_)
      refine DT ?_ (by kernel_rfl);exact aE 1 Q (aT [0,1] hm Q Q)
     replace hm:=JT hq11 hm;iterate 19 (refine DA [0,1] TK Q ?_)
     refine DT ?_ (by kernel_rfl);exact aE 1 Q (aT [0,1] hm Q Q)
    replace hm:=JT hq10 hm;iterate 24 (refine DA [0,1] TK Q ?_)
    refine DT ?_ (by kernel_rfl);exact aE 1 Q (aT [0,1] hm Q Q)
   refine WN [1,2,7,8,9,43] Q Q (bH hm Q (λh16 hm=>?_) (λh16 hm=>?_))
   ·refine aM 7 Q (IE hm λv17 hm hz=>?_);rw [hz4 _ hz] at hm;refine WR (bD 1 Q (IE hm λv18 hm hz=>?_));rw [hz1 _ hz] at hm;exact WR (aS hm Q)
   exact aR 4 Q (GE hm λg19 hm=>SX Q Q (bI Q Q Q Q g19) (aE 2 Q (aX [0] hm Q Q)))
  refine aM 2 Q (IE hm λv20 hm hz=>?_);rw [hz4 _ hz] at hm;exact WX (bD 1 Q (aX [0] hm Q Q))
 exact WN [] Q Q (aM 5 Q (aS hm Q))
theorem sC {p0:(List Aa)} {p1:(List Aa)} {r:Bool} (hm:eY p0 p1=some r):RetN TP 166 [.sl 2 (p0.map Aa.enc),.sl 2 (p1.map Aa.enc)] (.bool (r)):=by
 refine .unit (aJ (aZ Q) func166 Q ntmps166 Q Q (λwX gX=>?_)) Q;unfold eY at hm;refine WN [0,1] Q Q (bN 4 Q (bF hm (λ_=>[]) (λ_=>[]) [] [] Q (λz1 hm hz1=>?_) (λj hm=>?_)))
 ·refine aO 2 Q (SX Q Q (aN TK Q Q Q) (aL 4 Q (aV hm (λx3=>([(11,.d (.int .i64 x3))])) (λx3=>[]) [11] [1,9,10] [] Q k0 Q Q Q Q Q (λx3 z4 hm hz4=>WN [1,9,10,11] Q Q (bN 5 Q (bL hm Q (λh5 hm=>?_) (λh5 hm=>?_)))))))
  ·refine bM 2 Q (bF hm (λ_=>[]) (λ_=>[]) [] [1,9,10,11] Q (λz6 hm hz6=>?_) (λj hm=>?_))
   ·refine aO 2 Q (VE hm λe7 he7 hm=>SX Q Q (bA TK Q Q Q Q he7) (aG 1 Q (cK 0 Q Q bX Q (aG 5 Q (SX Q Q (aN TK Q Q Q) (aL 4 Q (aV hm (λx9=>([(17,.d (.int .i64 x9))])) (λx9=>[]) [17] [1,6,9,10,11,15,16] [0] Q k0 Q Q Q Q Q (λx9 z10 hm hz10=>WN [1,6,9,10,11,15,16,17] Q Q (bN 5 Q (bL hm Q (λh11 hm=>?_) (λh11 hm=>?_)))))))))))
    ·refine aR 5 Q (VE hm λe12 he12 hm=>SX Q Q (bA TK Q Q Q Q he12) (aG 1 Q (cK 1 Q Q bX Q (aL 3 Q (cI [(32,.d (.bool (((decide (e7.el=e12.el))&&(!(decide (e7.pos=e12.pos)))))))] [32] [1,6,9,10,11,15,16,17] Q ?_ ?_)))))
     ·refine aO 6 Q (SB TK Q (λq13 hq13=>?_));cases q13
      ·refine aE 7 Q ?_;exact⟨[0,1],Q,k0,aW (aI (aK (by first|(simp [hq13];done)|(simp only [hq13];simp))) Q) Q⟩
      refine aE 7 Q ?_;exact⟨[0,1],Q,k0,aW (aI (aK (by first|(simp [hq13];done)|(simp only [hq13];simp))) Q) Q⟩
     refine WN [1,6,9,10,11,15,16,17,32] Q Q (bH hm Q (λh14 hm=>?_) (λh14 hm=>?_))
     ·refine aM 7 Q (IE hm λv15 hm hz=>?_);rw [hz10 _ hz] at hm;refine WR (bD 2 Q (IE hm λv16 hm hz=>?_));rw [hz6 _ hz] at hm;refine WR (IE hm λv17 hm hz=>?_);rw [hz4 _ hz] at hm;refine WR (bD 1 Q (IE hm λv18 hm hz=>?_));rw [hz1 _ hz] at hm;exact WR (aS hm Q)
     exact aR 4 Q (GE hm λg19 hm=>SX Q Q (bI Q Q Q Q g19) (aE 2 Q (aX [0] hm Q Q)))
    refine aM 2 Q (IE hm λv20 hm hz=>?_);rw [hz10 _ hz] at hm;exact WX (bD 2 Q (aX [] hm Q Q))
   exact WN [1,9,10,11] Q Q (aR 1 Q (GE hm λg21 hm=>SX Q Q (bI Q Q Q Q g21) (aE 2 Q (aX [] hm Q Q))))
  refine aM 2 Q (IE hm λv22 hm hz=>?_);rw [hz4 _ hz] at hm;exact WX (bD 1 Q (aX [] hm Q Q))
 exact WN [] Q Q (aM 5 Q (aS hm Q))
theorem qLF {p0:Al} {p1:BA} {r:Int} (hm:mO p0 p1=some r):RetN TP 167 [p0.enc,.str p1] (.int .i64 r):=by
 refine .unit (aJ (aZ Q) func167 Q ntmps167 Q Q (λwX gX=>?_)) Q;unfold mO at hm;refine WN [0,1] Q Q (aO 1 Q (bR 0 Q Q Q (aL 3 Q (bF hm (λ_=>[]) (λ_=>[]) [] [] Q (λz1 hm hz1=>?_) (λj hm=>?_)))))
 ·refine aO 3 Q (SX Q Q (aN TK Q Q Q) (aL 4 Q (aV hm (λx3=>([(10,.d (.int .i64 x3))])) (λx3=>[]) [10] [1,8,9] [0] Q k0 Q Q Q Q Q (λx3 z4 hm hz4=>WN [1,8,9,10] Q Q (bN 5 Q (bL hm Q (λh5 hm=>?_) (λh5 hm=>?_)))))))
  ·refine aR 6 Q (VE hm λe6 he6 hm=>SX Q Q (bA TK Q Q Q Q he6) (aG 1 Q (cK 1 Q Q dY Q (cV 1 [none,none,none,some 3,some 2,some 1,none,none,some 3,some 2,some 1,some 2,some 1,some 2] Q Q (aL 11 Q (bL hm Q (λh7 hm=>?_) (λh7 hm=>?_)))))))
   ·refine bM 5 Q (WN [4] Q Q (aM 3 Q (IE hm λv8 hm hz=>?_)));rw [hz4 _ hz] at hm;refine WR (bD 1 Q (IE hm λv9 hm hz=>?_));rw [hz1 _ hz] at hm;exact WR (aS hm Q)
   exact aR 4 Q (GE hm λg10 hm=>SX Q Q (bI Q Q Q Q g10) (aE 2 Q (aX [0] hm Q Q)))
  refine aM 2 Q (IE hm λv11 hm hz=>?_);rw [hz4 _ hz] at hm;exact WX (bD 1 Q (aX [0] hm Q Q))
 exact WN [] Q Q (aM 5 Q (aS hm Q))
theorem xT {p0:Al} {r:Int} (hm:lD p0=some r):RetN TP 112 [p0.enc] (.int .i64 r):=by
 refine .unit (aJ (aZ Q) func112 Q ntmps112 Q Q (λwX gX=>?_)) Q;unfold lD at hm;refine WN [0] Q Q (aO 1 Q (bR 0 Q Q Q (aL 4 Q ?_)));refine cI [(40,.d (.bool (((decide ((48:Int) < (p0.Ab.length:Int)))||((decide ((32:Int) < (p0.Ae.length:Int)))||((decide (p0.Ad < (0:Int)))||((decide ((24:Int) < p0.Ad))||((decide (p0.Ah < (0:Int)))||(decide ((20:Int) < p0.Ah))))))))))] [40] [1] Q ?_ ?_
 ·refine aO 3 Q (SX Q Q (aN TK Q Q Q) (aG 1 Q (SB TK Q (λq1 hq1=>?_))));cases q1
  ·refine aG 2 Q (SX Q Q (aN TK Q Q Q) (aG 2 Q (SB TK Q (λq2 hq2=>?_))));cases q2
   ·refine aG 4 Q (SB TK Q (λq3 hq3=>?_));cases q3
    ·refine aG 4 Q (SB TK Q (λq4 hq4=>?_));cases q4
     ·refine aG 4 Q (SB TK Q (λq5 hq5=>?_));cases q5
      ·refine aE 5 Q ?_;exact⟨[0],Q,k0,aW (aI (aK (by first|(simp [hq1,hq2,hq3,hq4,hq5];done)|(simp only [hq1,hq2,hq3,hq4,hq5];simp))) Q) Q⟩
      refine aE 5 Q ?_;exact⟨[0],Q,k0,aW (aI (aK (by first|(simp [hq1,hq2,hq3,hq4,hq5];done)|(simp only [hq1,hq2,hq3,hq4,hq5];simp))) Q) Q⟩
     refine aE 10 Q ?_;exact⟨[0],Q,k0,aW (aI (aK (by first|(simp [hq1,hq2,hq3,hq4];done)|(simp only [hq1,hq2,hq3,hq4];simp))) Q) Q⟩
    refine aE 15 Q ?_;exact⟨[0],Q,k0,aW (aI (aK (by first|(simp [hq1,hq2,hq3];done)|(simp only [hq1,hq2,hq3];simp))) Q) Q⟩
   refine aE 20 Q ?_;exact⟨[0],Q,k0,aW (aI (aK (by first|(simp [hq1,hq2];done)|(simp only [hq1,hq2];simp))) Q) Q⟩
  refine aE 26 Q ?_;exact⟨[0],Q,k0,aW (aI (aK (by first|(simp [hq1];done)|(simp only [hq1];simp))) Q) Q⟩
 refine WN [1,40] Q Q (bH hm Q (λh6 hm=>?_) (λh6 hm=>?_))
 ·exact aM 6 Q (aS hm Q)
 refine aR 6 Q (SX Q Q (aN TK Q Q Q) (aG 2 Q (SX Q Q (aN TK Q Q Q) (aL 3 Q (eC hm Q (λh7 hm=>?_) (λh7 hm=>?_))))))
 ·exact aM 6 Q (aS hm Q)
 refine bM 2 Q (bF hm (λ_=>[]) (λ_=>[]) [] [1] Q (λz8 hm hz8=>?_) (λj hm=>?_))
 ·refine aO 3 Q (SX Q Q (aN TK Q Q Q) (aL 4 Q (aV hm (λx10=>([(51,.d (.int .i64 x10))])) (λx10=>[]) [51] [1,49,50] [0] Q k0 Q Q Q Q Q (λx10 z11 hm hz11=>WN [1,49,50,51] Q Q (bN 5 Q (bL hm Q (λh12 hm=>?_) (λh12 hm=>?_)))))))
  ·refine aR 6 Q (VE hm λe13 he13 hm=>SX Q Q (bA TK Q Q Q Q he13) (aL 5 Q (aP hm (λx14=>([(89,.d (.bool (x14)))])) (λx14=>[]) [89] [1,49,50,51] Q (λz15 hm=>?_) (λx14 hm=>?_))))
   ·refine cJ follows ?_;iterate 2 (refine DA [0] TK Q ?_)
    refine d_b [0] TK Q (λq16 hq16=>?_);cases q16
    ·replace hm:=JF hq16 hm;iterate 2 (refine DA [0] TK Q ?_)
     refine d_b [0] TK Q (λq17 hq17=>?_);cases q17
     ·replace hm:=JF hq17 hm;iterate 14 (refine DA [0] TK Q ?_)
      refine VE hm λe18 he18 hm=>DX [0] Q Q (bA TK Q Q Q Q he18) ?_;iterate 3 (refine DA [0] TK Q ?_)
      refine d_b [0] TK Q (λq19 hq19=>?_);cases q19
      ·replace hm:=JF hq19 hm;iterate 3 (refine DA [0] TK Q ?_)
       refine VE hm λe20 he20 hm=>DX [0] Q Q (bA TK Q Q Q Q he20) ?_;iterate 5 (refine DA [0] TK Q ?_)
       refine DT ?_ (by kernel_rfl);exact aE 1 Q (aT [0] hm Q Q)
      replace hm:=JT hq19 hm;iterate 9 (refine DA [0] TK Q ?_)
      refine DT ?_ (by kernel_rfl);exact aE 1 Q (aT [0] hm Q Q)
     replace hm:=JT hq17 hm;iterate 3 (refine DA [0] TK Q ?_)
     refine GE hm λg21 hm=>DX [0] Q Q (bI Q Q Q Q g21) (VE hm λe22 he22 hm=>DX [0] Q Q (bA TK Q Q Q Q he22) ?_);iterate 5 (refine DA [0] TK Q ?_)
     refine d_b [0] TK Q (λq23 hq23=>?_);cases q23
     ·replace hm:=JF hq23 hm;iterate 3 (refine DA [0] TK Q ?_)
      refine VE hm λe24 he24 hm=>DX [0] Q Q (bA TK Q Q Q Q he24) ?_;iterate 3 (refine DA [0] TK Q ?_)
      refine d_b [0] TK Q (λq25 hq25=>?_);cases q25
      ·replace hm:=JF hq25 hm;iterate 3 (refine DA [0] TK Q ?_)
       refine VE hm λe26 he26 hm=>DX [0] Q Q (bA TK Q Q Q Q he26) ?_;iterate 5 (refine DA [0] TK Q ?_)
       refine DT ?_ (by kernel_rfl);exact aE 1 Q (aT [0] hm Q Q)
      replace hm:=JT hq25 hm;iterate 9 (refine DA [0] TK Q ?_)
      refine DT ?_ (by kernel_rfl);exact aE 1 Q (aT [0] hm Q Q)
     replace hm:=JT hq23 hm;iterate 17 (refine DA [0] TK Q ?_)
     refine DT ?_ (by kernel_rfl);exact aE 1 Q (aT [0] hm Q Q)
    replace hm:=JT hq16 hm;iterate 31 (refine DA [0] TK Q ?_)
    refine DT ?_ (by kernel_rfl);exact aE 1 Q (aT [0] hm Q Q)
   refine WN [1,49,50,51,89] Q Q (bH hm Q (λh27 hm=>?_) (λh27 hm=>?_))
   ·refine aM 7 Q (IE hm λv28 hm hz=>?_);rw [hz11 _ hz] at hm;refine WR (bD 1 Q (IE hm λv29 hm hz=>?_));rw [hz8 _ hz] at hm;exact WR (aS hm Q)
   exact aR 4 Q (GE hm λg30 hm=>SX Q Q (bI Q Q Q Q g30) (aE 2 Q (aX [0] hm Q Q)))
  refine aM 2 Q (IE hm λv31 hm hz=>?_);rw [hz11 _ hz] at hm;exact WX (bD 1 Q (aX [0] hm Q Q))
 refine WN [1] Q Q (bF hm (λ_=>[]) (λ_=>[]) [] [1] Q (λz32 hm hz32=>?_) (λj hm=>?_))
 ·refine aO 3 Q (SX Q Q (aN TK Q Q Q) (aL 4 Q (aV hm (λx34=>([(94,.d (.int .i64 x34))])) (λx34=>[]) [94] [1,92,93] [0] Q k0 Q Q Q Q Q (λx34 z35 hm hz35=>WN [1,92,93,94] Q Q (bN 5 Q (bL hm Q (λh36 hm=>?_) (λh36 hm=>?_)))))))
  ·refine aR 5 Q (VE hm λe37 he37 hm=>SX Q Q (bA TK Q Q Q Q he37) (aG 1 Q (cK 1 Q Q dY Q (cV 1 [none,none,none,some 3,some 2,some 1,none,none,some 3,some 2,some 1,some 2,some 1,some 2] Q Q (aL 3 Q (aP hm (λx38=>([(122,.d (.bool (x38)))])) (λx38=>[]) [122] [1,92,93,94] Q (λz39 hm=>?_) (λx38 hm=>?_)))))))
   ·refine aO 3 Q (c_N hm (qIO ·) Q Q Q Q λr40 hm=>aG 1 Q (SB TK Q (λq41 hq41=>?_)));cases q41
    ·replace hm:=JB hq41 hm;refine aG 3 Q (c_N hm (mN ·) Q Q Q Q λr42 hm=>aG 2 Q (SB TK Q (λq43 hq43=>?_)));cases q43
     ·replace hm:=JB hq43 hm;refine aG 3 Q (c_N hm (mN ·) Q Q Q Q λr44 hm=>aG 2 Q (SB TK Q (λq45 hq45=>?_)));cases q45
      ·replace hm:=JB hq45 hm;exact aG 3 Q (c_N hm (mN ·) Q Q Q Q λr46 hm=>aE 3 Q (aT [0,1] hm Q Q))
      replace hm:=JA hq45 hm;exact aE 7 Q (aT [0,1] hm Q Q)
     replace hm:=JA hq43 hm;exact aE 14 Q (aT [0,1] hm Q Q)
    replace hm:=JA hq41 hm;exact aE 21 Q (aT [0,1] hm Q Q)
   refine WN [1,92,93,94,122] Q Q (bH hm Q (λh47 hm=>?_) (λh47 hm=>?_))
   ·refine aM 7 Q (IE hm λv48 hm hz=>?_);rw [hz35 _ hz] at hm;refine WR (bD 1 Q (IE hm λv49 hm hz=>?_));rw [hz32 _ hz] at hm;exact WR (aS hm Q)
   exact aR 4 Q (GE hm λg50 hm=>SX Q Q (bI Q Q Q Q g50) (aE 2 Q (aX [0] hm Q Q)))
  refine aM 2 Q (IE hm λv51 hm hz=>?_);rw [hz35 _ hz] at hm;exact WX (bD 1 Q (aX [0] hm Q Q))
 refine WN [1] Q Q (bF hm (λ_=>[]) (λ_=>[]) [] [1] Q (λz52 hm hz52=>?_) (λj hm=>?_))
 ·refine aO 3 Q (SX Q Q (aN TK Q Q Q) (aL 4 Q (aV hm (λx54=>([(127,.d (.int .i64 x54))])) (λx54=>[]) [127] [1,125,126] [0] Q k0 Q Q Q Q Q (λx54 z55 hm hz55=>WN [1,125,126,127] Q Q (bN 5 Q (bL hm Q (λh56 hm=>?_) (λh56 hm=>?_)))))))
  ·refine aR 5 Q (VE hm λe57 he57 hm=>SX Q Q (bA TK Q Q Q Q he57) (aG 1 Q (cK 1 Q Q dY Q (cV 1 [none,none,none,some 3,some 2,some 1,none,none,some 3,some 2,some 1,some 2,some 1,some 2] Q Q (aL 3 Q (aP hm (λx58=>([(152,.d (.bool (x58)))])) (λx58=>[]) [152] [1,125,126,127] Q (λz59 hm=>?_) (λx58 hm=>?_)))))))
   ·refine aO 5 Q (c_N hm (sC ·) Q Q Q Q λr60 hm=>aG 1 Q (SB TK Q (λq61 hq61=>?_)));cases q61
    ·replace hm:=JB hq61 hm;refine aG 4 Q (c_N hm (sC ·) Q Q Q Q λr62 hm=>aG 2 Q (SB TK Q (λq63 hq63=>?_)));cases q63
     ·replace hm:=JB hq63 hm;exact aG 4 Q (c_N hm (sC ·) Q Q Q Q λr64 hm=>aE 3 Q (aT [0,1] hm Q Q))
     replace hm:=JA hq63 hm;exact aE 8 Q (aT [0,1] hm Q Q)
    replace hm:=JA hq61 hm;exact aE 16 Q (aT [0,1] hm Q Q)
   refine WN [1,125,126,127,152] Q Q (bH hm Q (λh65 hm=>?_) (λh65 hm=>?_))
   ·refine aM 7 Q (IE hm λv66 hm hz=>?_);rw [hz55 _ hz] at hm;refine WR (bD 1 Q (IE hm λv67 hm hz=>?_));rw [hz52 _ hz] at hm;exact WR (aS hm Q)
   exact aR 4 Q (GE hm λg68 hm=>SX Q Q (bI Q Q Q Q g68) (aE 2 Q (aX [0] hm Q Q)))
  refine aM 2 Q (IE hm λv69 hm hz=>?_);rw [hz55 _ hz] at hm;exact WX (bD 1 Q (aX [0] hm Q Q))
 refine WN [1] Q Q (bF hm (λ_=>[]) (λ_=>[]) [] [] Q (λz70 hm hz70=>?_) (λj hm=>?_))
 ·refine aO 3 Q (SX Q Q (aN TK Q Q Q) (aL 4 Q (aV hm (λx72=>([(157,.d (.int .i64 x72))])) (λx72=>[]) [157] [1,155,156] [0] Q k0 Q Q Q Q Q (λx72 z73 hm hz73=>WN [1,155,156,157] Q Q (bN 5 Q (bL hm Q (λh74 hm=>?_) (λh74 hm=>?_)))))))
  ·refine aR 6 Q (VE hm λe75 he75 hm=>SX Q Q (bA TK Q Q Q Q he75) (aG 1 Q (cK 1 Q Q dY Q (cV 1 [none,none,none,some 3,some 2,some 1,none,none,some 3,some 2,some 1,some 2,some 1,some 2] Q Q (aG 8 Q (c_N hm (qLF ·) Q Q Q Q λr76 hm=>aL 4 Q (eC hm Q (λh77 hm=>?_) (λh77 hm=>?_))))))))
   ·refine bM 4 Q (WN [2] Q Q (aM 3 Q (IE hm λv78 hm hz=>?_)));rw [hz73 _ hz] at hm;refine WR (bD 1 Q (IE hm λv79 hm hz=>?_));rw [hz70 _ hz] at hm;exact WR (aS hm Q)
   exact aR 4 Q (GE hm λg80 hm=>SX Q Q (bI Q Q Q Q g80) (aE 2 Q (aX [0] hm Q Q)))
  refine aM 2 Q (IE hm λv81 hm hz=>?_);rw [hz73 _ hz] at hm;exact WX (bD 1 Q (aX [0] hm Q Q))
 exact WN [] Q Q (aM 5 Q (aS hm Q))
theorem zK {p0:Ak} {p1:Int} {r:Bool} (hm:iF p0 p1=some r):RetN TP 113 [p0.enc,.int .i64 p1] (.bool (r)):=by
 refine .unit (aJ (aZ Q) func113 Q ntmps113 Q Q (λwX gX=>?_)) Q;unfold iF at hm;refine WN [0,1] Q Q (aO 1 Q (bR 0 Q Q Q (aL 10 Q (aP hm (λx1=>([(7,.d (.bool (x1)))])) (λx1=>[]) [7] [1,2,6] Q (λz2 hm=>?_) (λx1 hm=>?_)))))
 ·refine bN 5 Q (bL hm Q (λh3 hm=>?_) (λh3 hm=>?_))
  ·exact aM 1 Q (aT [0] hm Q Q)
  refine bM 5 Q (bL hm Q (λh4 hm=>?_) (λh4 hm=>?_))
  ·exact aM 1 Q (aT [0] hm Q Q)
  exact aM 4 Q (aT [0] hm Q Q)
 refine WN [1,2,6,7] Q Q (bH hm Q (λh5 hm=>?_) (λh5 hm=>?_))
 ·refine cI [(4,.d (.bool (((decide (p0.rel=(0:Int)))&&(decide (p0.timer=(0:Int)))))))] [4] [] Q ?_ ?_
  ·refine aO 4 Q (SB TK Q (λq6 hq6=>?_));cases q6
   ·refine aE 6 Q ?_;exact⟨[0],Q,k0,aW (aI (aK (by first|(simp [hq6];done)|(simp only [hq6];simp))) Q) Q⟩
   refine aE 6 Q ?_;exact⟨[0],Q,k0,aW (aI (aK (by first|(simp [hq6];done)|(simp only [hq6];simp))) Q) Q⟩
  exact WN [4] Q Q (aM 3 Q (aS hm Q))
 refine bM 5 Q (bL hm Q (λh7 hm=>?_) (λh7 hm=>?_))
 ·refine aP hm (λx8=>([(4,.d (.bool (x8)))])) (λx8=>[]) [4] [] Q (λz9 hm=>?_) (λx8 hm=>?_)
  ·refine aO 4 Q (SB TK Q (λq10 hq10=>?_));cases q10
   ·replace hm:=JF hq10 hm;exact aE 29 Q (aT [0] hm Q Q)
   replace hm:=JT hq10 hm;refine aG 5 Q (SB TK Q (λq11 hq11=>?_));cases q11
   ·replace hm:=JF hq11 hm;exact aE 23 Q (aT [0] hm Q Q)
   replace hm:=JT hq11 hm;refine aG 4 Q (SB TK Q (λq12 hq12=>?_));cases q12
   ·replace hm:=JF hq12 hm;exact aE 18 Q (aT [0] hm Q Q)
   replace hm:=JT hq12 hm;refine aG 4 Q (SB TK Q (λq13 hq13=>?_));cases q13
   ·replace hm:=JF hq13 hm;exact aE 13 Q (aT [0] hm Q Q)
   replace hm:=JT hq13 hm;refine aG 3 Q (SB TK Q (λq14 hq14=>?_));cases q14
   ·replace hm:=JF hq14 hm;exact aG 3 Q (GE hm λg15 hm=>SX Q Q (bI Q Q Q Q g15) (aE 5 Q (aT [0] hm Q Q)))
   replace hm:=JT hq14 hm;exact aE 9 Q (aT [0] hm Q Q)
  exact WN [4] Q Q (aM 3 Q (aS hm Q))
 refine bM 5 Q (bL hm Q (λh16 hm=>?_) (λh16 hm=>?_))
 ·refine cI [(4,.d (.bool (((decide ((0:Int)<=p0.rel))&&((decide (p0.rel < p1))&&((decide ((0:Int)<=p0.timer))&&(decide (p0.timer < (12:Int)))))))))] [4] [] Q ?_ ?_
  ·refine aO 4 Q (SB TK Q (λq17 hq17=>?_));cases q17
   ·refine aE 17 Q ?_;exact⟨[0],Q,k0,aW (aI (aK (by first|(simp [hq17];done)|(simp only [hq17];simp))) Q) Q⟩
   refine aG 5 Q (SB TK Q (λq18 hq18=>?_));cases q18
   ·refine aE 11 Q ?_;exact⟨[0],Q,k0,aW (aI (aK (by first|(simp [hq17,hq18];done)|(simp only [hq17,hq18];simp))) Q) Q⟩
   refine aG 4 Q (SB TK Q (λq19 hq19=>?_));cases q19
   ·refine aE 6 Q ?_;exact⟨[0],Q,k0,aW (aI (aK (by first|(simp [hq17,hq18,hq19];done)|(simp only [hq17,hq18,hq19];simp))) Q) Q⟩
   refine aE 6 Q ?_;exact⟨[0],Q,k0,aW (aI (aK (by first|(simp [hq17,hq18,hq19];done)|(simp only [hq17,hq18,hq19];simp))) Q) Q⟩
  exact WN [4] Q Q (aM 3 Q (aS hm Q))
 exact aM 8 Q (aS hm Q)
theorem qLD {p0:Al} {p1:Az} {r:Bool} (hm:pY p0 p1=some r):RetN TP 55 [p0.enc,p1.enc] (.bool (r)):=by
 refine .unit (aJ (aZ Q) func55 Q ntmps55 Q Q (λwX gX=>?_)) Q;unfold pY at hm;refine WN [0,1] Q Q (aO 1 Q (bR 0 Q Q Q (bR 1 Q Q Q (aL 4 Q (aP hm (λx1=>([(27,.d (.bool (x1)))])) (λx1=>[]) [27] [2,3] Q (λz2 hm=>?_) (λx1 hm=>?_))))))
 ·refine aO 2 Q (c_N hm (xT ·) Q Q Q Q λr3 hm=>aG 1 Q (SB TK Q (λq4 hq4=>?_)));cases q4
  ·replace hm:=eM hq4 hm;refine aG 2 Q (SX Q Q (aN TK Q Q Q) (aG 2 Q (SX Q Q (aN TK Q Q Q) (aG 2 Q (SB TK Q (λq5 hq5=>?_))))));cases q5
   ·replace hm:=eM hq5 hm;exact aG 2 Q (SX Q Q (aN TK Q Q Q) (aG 2 Q (SX Q Q (aN TK Q Q Q) (aE 3 Q (aT [0,1] hm Q Q)))))
   replace hm:=eL hq5 hm;exact aE 9 Q (aT [0,1] hm Q Q)
  replace hm:=eL hq4 hm;exact aE 18 Q (aT [0,1] hm Q Q)
 refine WN [2,3,27] Q Q (bH hm Q (λh6 hm=>?_) (λh6 hm=>?_))
 ·exact aM 6 Q (aS hm Q)
 refine bM 2 Q (bF hm (λ_=>[]) (λ_=>[]) [] [3] Q (λz7 hm hz7=>?_) (λj hm=>?_))
 ·refine bN 5 Q (aV hm (λi9=>([(5,.d (.int .i64 i9))])) (λi9=>[]) [5] [2,3] [0,1] Q k0 Q Q Q Q Q (λi9 z10 hm hz10=>WN [2,3,5] Q Q (aO 5 Q (SX Q Q (aN TK Q Q Q) (aL 3 Q (bL hm Q (λh11 hm=>?_) (λh11 hm=>?_)))))))
  ·refine bM 4 Q (bJ follows ?_);iterate 3 (refine DA [0,1] TK Q ?_)
   refine VE hm λe12 he12 hm=>DX [0,1] Q Q (bA TK Q Q Q Q he12) ?_;iterate 4 (refine DA [0,1] TK Q ?_)
   refine VE hm λe13 he13 hm=>DX [0,1] Q Q (bA TK Q Q Q Q he13) ?_;iterate 2 (refine DA [0,1] TK Q ?_)
   refine DX [0,1] Q Q (aN TK Q Q Q) (dK [0,1] hm (zK ·) Q Q Q Q λr14 hm=>DA [0,1] TK Q ?_);refine DT ?_ (by kernel_rfl);refine aL 2 Q (WN [2,3,5,48] Q Q (bH hm Q (λh15 hm=>?_) (λh15 hm=>?_)))
   ·refine aM 7 Q (IE hm λv16 hm hz=>?_);rw [hz10 _ hz] at hm;refine WR (bD 1 Q (IE hm λv17 hm hz=>?_));rw [hz7 _ hz] at hm;exact WR (aS hm Q)
   exact aR 5 Q (GE hm λg18 hm=>SX Q Q (bI Q Q Q Q g18) (aE 2 Q (aX [0,1] hm Q Q)))
  refine aM 2 Q (IE hm λv19 hm hz=>?_);rw [hz10 _ hz] at hm;exact WX (bD 1 Q (aX [0,1] hm Q Q))
 refine WN [3] Q Q (bF hm (λ_=>[]) (λ_=>[]) [] [] Q (λz20 hm hz20=>?_) (λj hm=>?_))
 ·refine bN 5 Q (aV hm (λi22=>([(6,.d (.int .i64 i22))])) (λi22=>[]) [6] [3] [0,1] Q k0 Q Q Q Q Q (λi22 z23 hm hz23=>WN [3,6] Q Q (aO 5 Q (SX Q Q (aN TK Q Q Q) (aL 3 Q (bL hm Q (λh24 hm=>?_) (λh24 hm=>?_)))))))
  ·refine bM 4 Q (aP hm (λx25=>([(69,.d (.bool (x25)))])) (λx25=>[]) [69] [3,6] Q (λz26 hm=>?_) (λx25 hm=>?_))
   ·refine aO 4 Q (VE hm λe27 he27 hm=>SX Q Q (bA TK Q Q Q Q he27) (aG 2 Q (SB TK Q (λq28 hq28=>?_))));cases q28
    ·replace hm:=eM hq28 hm;exact aE 8 Q (aT [0,1] hm Q Q)
    replace hm:=eL hq28 hm;exact aG 3 Q (VE hm λe29 he29 hm=>SX Q Q (bA TK Q Q Q Q he29) (aE 4 Q (aT [0,1] hm Q Q)))
   refine WN [3,6,69] Q Q (bH hm Q (λh30 hm=>?_) (λh30 hm=>?_))
   ·refine aM 7 Q (IE hm λv31 hm hz=>?_);rw [hz23 _ hz] at hm;refine WR (bD 1 Q (IE hm λv32 hm hz=>?_));rw [hz20 _ hz] at hm;exact WR (aS hm Q)
   exact aR 5 Q (GE hm λg33 hm=>SX Q Q (bI Q Q Q Q g33) (aE 2 Q (aX [0,1] hm Q Q)))
  refine aM 2 Q (IE hm λv34 hm hz=>?_);rw [hz23 _ hz] at hm;exact WX (bD 1 Q (aX [0,1] hm Q Q))
 exact WN [] Q Q (aM 5 Q (aS hm Q))
theorem tV {p0:Aa} {p1:Aa} {r:Bool} (hm:eG p0 p1=some r):RetN TP 168 [p0.enc,p1.enc] (.bool (r)):=by
 refine .unit (aJ (aZ Q) func168 Q ntmps168 Q Q (λwX gX=>?_)) Q;unfold eG at hm;refine WN [0,1] Q Q (aO 1 Q (bR 0 Q Q Q (bR 1 Q Q Q (aL 3 Q ?_))));refine cI [(4,.d (.bool (((decide (p0.el < p1.el))||((decide (p0.el=p1.el))&&(decide (p0.pos < p1.pos)))))))] [4] [] Q ?_ ?_
 ·refine aO 6 Q (SB TK Q (λq1 hq1=>?_));cases q1
  ·refine aG 5 Q (SB TK Q (λq2 hq2=>?_));cases q2
   ·refine aE 9 Q ?_;exact⟨[0,1],Q,k0,aW (aI (aK (by first|(simp [hq1,hq2];done)|(simp only [hq1,hq2];simp))) Q) Q⟩
   refine aE 9 Q ?_;exact⟨[0,1],Q,k0,aW (aI (aK (by first|(simp [hq1,hq2];done)|(simp only [hq1,hq2];simp))) Q) Q⟩
  refine aE 15 Q ?_;exact⟨[0,1],Q,k0,aW (aI (aK (by first|(simp [hq1];done)|(simp only [hq1];simp))) Q) Q⟩
 exact WN [4] Q Q (aM 1 Q (aS hm Q))
theorem qBT {p0:Ai} {r:(List Aa)} (hm:jA p0=some r):RetD TP 114 [p0.enc] (.sl 2 (r.map Aa.enc)):=by
 refine .of (mv:=λ_=>false) (aJ (aZ Q) func114 Q ntmps114 Q Q (λwX gX=>?_));unfold jA at hm;refine WN [0] Q Q (aO 1 Q (bR 0 Q Q Q (aG 4 Q (cM (f:=Aa.enc) 1 126 2 Q Q Q (cM (f:=Aa.enc) 2 126 2 Q Q Q (aG 6 Q (GE hm λg1 hm=>cB (f:=Aa.enc) p0.Ae TK Q Q bX Q Q Q Q Q (λh=>absurd h (zQV _)) Q bZ g1 Q Q (aG 7 Q (GE hm λg2 hm=>cB (f:=Aa.enc) p0.Aj TK Q Q bX Q Q Q Q Q (λh=>absurd h (zQV _)) Q bZ g2 Q Q (aG 7 Q (GE hm λg3 hm=>?_)))))))))));refine cB (f:=Aa.enc) p0.At TK Q Q bX Q Q Q Q Q (λh=>absurd h (zQV _)) Q bZ g3 Q Q (aL 3 Q (WN [3,4] Q Q (bM 1 Q (aV hm (λb5=>([(3,.msl 0 2 0 (((([]:List Aa)++p0.Ae)++p0.Aj)++p0.At).length),(4,.msl 1 2 0 b5.length)])) (λb5=>([(1,.flat 126 2 (b5.map Aa.enc))])) [3,4] [] [1,2] Q k0 Q Q Q Q Q (λb5 z6 hm hz6=>WN [3,4] Q Q (bN 5 Q (aP hm (λfound7=>([(5,.d (.int .i64 found7))])) (λfound7=>[]) [5] [3,4] Q (λz8 hm=>?_) (λfound7 hm=>?_))))))))
 ·refine bN 7 Q (aV hm (λ(found11,x12)=>([(5,.d (.int .i64 found11)),(22,.d (.int .i64 x12))])) (λ(found11,x12)=>[]) [5,22] [3,4,20,21] [0,1] Q k0 Q Q Q Q Q (λs z13 hm hz13=>?_));obtain⟨found11,x12⟩:=s;refine WN [3,4,5,20,21,22] Q Q (bN 5 Q (bL hm Q (λh14 hm=>?_) (λh14 hm=>?_)))
  ·refine aR 6 Q (VE hm λe15 he15 hm=>SX Q Q (mH TK Q Q Q Q he15 Q) (SX Q Q (pL TK Q Q Q Q he15.2 Q) (cK 2 Q Q bX Q (aL 4 Q (aP hm (λx16=>([(51,.d (.bool (x16)))])) (λx16=>[]) [51] [3,4,5,6,20,21,22] Q (λz17 hm=>?_) (λx16 hm=>?_))))))
   ·refine cJ follows ?_;iterate 3 (refine DA [0,1,2] TK Q ?_)
    refine d_b [0,1,2] TK Q (λq18 hq18=>?_);cases q18
    ·replace hm:=JF hq18 hm;iterate 3 (refine DA [0,1,2] TK Q ?_)
     refine GE hm λg19 hm=>DX [0,1,2] Q Q (bI Q Q Q Q g19) (VE hm λe20 he20 hm=>DX [0,1,2] Q Q (mH TK Q Q Q Q he20 Q) (DX [0,1,2] Q Q (pL TK Q Q Q Q he20.2 Q) (DA [0,1,2] TK Q (dK [0,1,2] hm (tV ·) Q Q Q Q λr21 hm=>DA [0,1,2] TK Q (d_b [0,1,2] TK Q (λq22 hq22=>?_))))));cases q22
     ·replace hm:=JB hq22 hm;iterate 11 (refine DA [0,1,2] TK Q ?_)
      refine DT ?_ (by kernel_rfl);exact aE 1 Q (aT [0,1,2] hm Q Q)
     replace hm:=JA hq22 hm;iterate 2 (refine DA [0,1,2] TK Q ?_)
     refine d_b [0,1,2] TK Q (λq23 hq23=>?_);cases q23
     ·replace hm:=JF hq23 hm;iterate 3 (refine DA [0,1,2] TK Q ?_)
      refine VE hm λe24 he24 hm=>DX [0,1,2] Q Q (mH TK Q Q Q Q he24 Q) (DX [0,1,2] Q Q (pL TK Q Q Q Q he24.2 Q) (dK [0,1,2] hm (tV ·) Q Q Q Q λr25 hm=>?_));iterate 2 (refine DA [0,1,2] TK Q ?_)
      refine DT ?_ (by kernel_rfl);exact aE 1 Q (aT [0,1,2] hm Q Q)
     replace hm:=JT hq23 hm;iterate 8 (refine DA [0,1,2] TK Q ?_)
     refine DT ?_ (by kernel_rfl);exact aE 1 Q (aT [0,1,2] hm Q Q)
    replace hm:=JT hq18 hm;iterate 12 (refine DA [0,1,2] TK Q ?_)
    refine d_b [0,1,2] TK Q (λq26 hq26=>?_);cases q26
    ·replace hm:=JF hq26 hm;iterate 3 (refine DA [0,1,2] TK Q ?_)
     refine VE hm λe27 he27 hm=>DX [0,1,2] Q Q (mH TK Q Q Q Q he27 Q) (DX [0,1,2] Q Q (pL TK Q Q Q Q he27.2 Q) (dK [0,1,2] hm (tV ·) Q Q Q Q λr28 hm=>?_));iterate 2 (refine DA [0,1,2] TK Q ?_)
     refine DT ?_ (by kernel_rfl);exact aE 1 Q (aT [0,1,2] hm Q Q)
    replace hm:=JT hq26 hm;iterate 8 (refine DA [0,1,2] TK Q ?_)
    refine DT ?_ (by kernel_rfl);exact aE 1 Q (aT [0,1,2] hm Q Q)
   refine WN [3,4,5,6,20,21,22,51] Q Q (bH hm Q (λh29 hm=>?_) (λh29 hm=>?_))
   ·exact aR 7 Q (GE hm λg30 hm=>SX Q Q (bI Q Q Q Q g30) (aE 2 Q (aX [0,1] hm Q Q)))
   exact aR 4 Q (GE hm λg31 hm=>SX Q Q (bI Q Q Q Q g31) (aE 2 Q (aX [0,1] hm Q Q)))
  refine aM 2 Q (IE hm λv32 hm hz=>?_);rw [hz13 _ hz] at hm;exact WX (bD 1 Q (aT [0,1] hm Q Q))
 refine WN [3,4,5] Q Q (bM 6 Q (bL hm Q (λh33 hm=>?_) (λh33 hm=>?_)))
 ·refine aM 8 Q (IE hm λv34 hm hz=>?_);rw [hz6 _ hz] at hm;refine WR (bD 1 Q ?_);obtain rfl:=OJ hm;exact EndsS.one _ Q (bQ Q) (.refl _)
 exact aR 6 Q (VE hm λe35 he35 hm=>SX Q Q (mH TK Q Q Q Q he35 Q) (SX Q Q (pL TK Q Q Q Q he35.2 Q) (SX Q Q (cF [.tmp 61] TK Q Q bX Q Q Q Q Q) (GE hm λg36 hm=>cB (f:=Aa.enc) ([e35]:List Aa) TK Q Q bX Q Q Q Q Q (λh=>absurd h (zQV _)) Q bZ g36 Q Q (aE 3 Q (aX [0,1] hm Q Q))))))
theorem vF {p0:(List Aa)} {p1:Aa} {r:Bool} (hm:jQ p0 p1=some r):RetN TP 115 [.sl 2 (p0.map Aa.enc),p1.enc] (.bool (r)):=by
 refine .unit (aJ (aZ Q) func115 Q ntmps115 Q Q (λwX gX=>?_)) Q;unfold jQ at hm;refine WN [0,1] Q Q (aO 1 Q (bR 0 Q Q Q (aL 3 Q (bF hm (λ_=>[]) (λ_=>[]) [] [] Q (λz1 hm hz1=>?_) (λj hm=>?_)))))
 ·refine bN 5 Q (aV hm (λi3=>([(5,.d (.int .i64 i3))])) (λi3=>[]) [5] [0,3] [0] Q k0 Q Q Q Q Q (λi3 z4 hm hz4=>WN [0,3,5] Q Q (aO 4 Q (SX Q Q (aN TK Q Q Q) (aL 3 Q (bL hm Q (λh5 hm=>?_) (λh5 hm=>?_)))))))
  ·refine bM 4 Q (bJ follows ?_);iterate 2 (refine DA [0] TK Q ?_)
   refine VE hm λe6 he6 hm=>DX [0] Q Q (bA TK Q Q Q Q he6) ?_;iterate 2 (refine DA [0] TK Q ?_)
   refine GE hm λg7 hm=>DX [0] Q Q (qHK Q Q Q g7.1 g7.2) ?_;refine DT ?_ (by kernel_rfl);refine aL 2 Q (bL hm Q (λh9 hm=>?_) (λh9 hm=>?_))
   ·refine aM 7 Q (IE hm λv10 hm hz=>?_);rw [hz4 _ hz] at hm;refine WR (bD 1 Q (IE hm λv11 hm hz=>?_));rw [hz1 _ hz] at hm;exact WR (aS hm Q)
   exact aR 5 Q (GE hm λg12 hm=>SX Q Q (bI Q Q Q Q g12) (aE 2 Q (aX [0] hm Q Q)))
  refine aM 2 Q (IE hm λv13 hm hz=>?_);rw [hz4 _ hz] at hm;exact WX (bD 1 Q (aX [0] hm Q Q))
 exact WN [] Q Q (aM 5 Q (aS hm Q))
theorem qIM {p0:Al} {p1:Az} {p2:Int} {r:(List Aa)} (hm:nO p0 p1 p2=some r):RetD TP 56 [p0.enc,p1.enc,.int .i64 p2] (.sl 2 (r.map Aa.enc)):=by
 refine .of (mv:=λ_=>false) (aJ (aZ Q) func56 Q ntmps56 Q Q (λwX gX=>?_));unfold nO at hm;refine WN [0,1,2] Q Q (aO 1 Q (bR 0 Q Q Q (bR 1 Q Q Q (aG 8 Q (VE hm λe1 he1 hm=>SX Q Q (bA TK Q Q Q Q he1) (aL 5 Q (bL hm Q (λh2 hm=>?_) (λh2 hm=>?_))))))))
 ·refine bM 4 Q (uS 6 [some 2] Q (aM 2 Q ?_));obtain rfl:=OJ hm;exact EndsS.one _ Q (.d _) (.refl _)
 refine aR 6 Q (VE hm λe3 he3 hm=>SX Q Q (bA TK Q Q Q Q he3) (aG 1 Q (cK 2 Q Q dY Q (cV 2 [none,none,none,some 3,some 2,some 1,none,none,some 3,some 2,some 1,some 2,some 1,some 2] Q Q (aL 3 Q (WN [2,3,4,7] Q Q (bJ follows ?_)))))));iterate 5 (refine DA [0,1,2] TK Q ?_)
 refine VE hm λe4 he4 hm=>DX [0,1,2] Q Q (bA TK Q Q Q Q he4) ?_;iterate 2 (refine DA [0,1,2] TK Q ?_)
 refine GE hm λg5 hm=>DX [0,1,2] Q Q (yZ TK Q Q Q Q Q g5) ?_;refine DT ?_ (by kernel_rfl);refine aG 5 Q (c_D hm (qBT ·) Q Q Q Q λr6 hm=>aG 4 Q (cM (f:=Aa.enc) 3 126 2 Q Q Q (aL 2 Q (aP hm (λb7=>([(10,.msl 3 2 0 b7.length)])) (λb7=>([(3,.flat 126 2 (b7.map Aa.enc))])) [10] [] Q (λz8 hm=>?_) (λb7 hm=>?_)))))
 ·refine bN 5 Q (aV hm (λ(i12,b13)=>([(10,.msl 3 2 0 b13.length),(11,.d (.int .i64 i12))])) (λ(i12,b13)=>([(3,.flat 126 2 (b13.map Aa.enc))])) [10,11] [3,7,8,9] [0,1,2,3] Q k0 Q Q Q Q Q (λs z14 hm hz14=>?_));obtain⟨i12,b13⟩:=s;refine WN [3,7,8,9,10,11] Q Q (aO 4 Q (SX Q Q (aN TK Q Q Q) (aL 3 Q (bL hm Q (λh15 hm=>?_) (λh15 hm=>?_)))))
  ·refine bM 4 Q (bJ follows ?_);iterate 3 (refine DA [0,1,2,3] TK Q ?_)
   refine VE hm λe16 he16 hm=>DX [0,1,2,3] Q Q (bA TK Q Q Q Q he16) ?_;iterate 2 (refine DA [0,1,2,3] TK Q ?_)
   refine dK [0,1,2,3] hm (sD ·) Q Q Q Q λr17 hm=>?_;refine DT ?_ (by kernel_rfl);refine aL 3 Q (aP hm (λinPath18=>([(13,.d (.bool (inPath18)))])) (λinPath18=>[]) [13] [3,7,8,9,10,11] Q (λz19 hm=>?_) (λinPath18 hm=>?_))
   ·refine cJ follows ?_;iterate 4 (refine DA [0,1,2,3] TK Q ?_)
    refine VE hm λe20 he20 hm=>DX [0,1,2,3] Q Q (bA TK Q Q Q Q he20) (DA [0,1,2,3] TK Q (dK [0,1,2,3] hm (vF ·) Q Q Q Q λr21 hm=>d_b [0,1,2,3] TK Q (λq22 hq22=>?_)));cases q22
    ·replace hm:=JB hq22 hm;iterate 9 (refine DA [0,1,2,3] TK Q ?_)
     refine DT ?_ (by kernel_rfl);exact aE 2 Q (aT [0,1,2,3] hm Q Q)
    replace hm:=JA hq22 hm;iterate 4 (refine DA [0,1,2,3] TK Q ?_)
    refine VE hm λe23 he23 hm=>DX [0,1,2,3] Q Q (bA TK Q Q Q Q he23) (DA [0,1,2,3] TK Q (dK [0,1,2,3] hm (rN ·) Q Q Q Q λr24 hm=>?_));iterate 2 (refine DA [0,1,2,3] TK Q ?_)
    refine DT ?_ (by kernel_rfl);exact aE 2 Q (aT [0,1,2,3] hm Q Q)
   refine WN [3,7,8,9,10,11,13] Q Q (aP hm (λx25=>([(85,.d (.bool (x25)))])) (λx25=>[]) [85] [3,7,8,9,10,11] Q (λz26 hm=>?_) (λx25 hm=>?_))
   ·refine cJ follows (DA [0,1,2,3] TK Q (d_b [0,1,2,3] TK Q (λq27 hq27=>?_)));cases q27
    ·replace hm:=JB hq27 hm;iterate 4 (refine DA [0,1,2,3] TK Q ?_)
     refine VE hm λe28 he28 hm=>DX [0,1,2,3] Q Q (bA TK Q Q Q Q he28) (DA [0,1,2,3] TK Q (dK [0,1,2,3] hm (vF ·) Q Q Q Q λr29 hm=>DA [0,1,2,3] TK Q (d_b [0,1,2,3] TK Q (λq30 hq30=>?_))));cases q30
     ·replace hm:=JB hq30 hm;iterate 4 (refine DA [0,1,2,3] TK Q ?_)
      refine VE hm λe31 he31 hm=>DX [0,1,2,3] Q Q (bA TK Q Q Q Q he31) (DA [0,1,2,3] TK Q (dK [0,1,2,3] hm (vF ·) Q Q Q Q λr32 hm=>DA [0,1,2,3] TK Q ?_));refine DT ?_ (by kernel_rfl);exact aE 1 Q (aT [0,1,2,3] hm Q Q)
     replace hm:=JA hq30 hm;iterate 8 (refine DA [0,1,2,3] TK Q ?_)
     refine DT ?_ (by kernel_rfl);exact aE 1 Q (aT [0,1,2,3] hm Q Q)
    replace hm:=JA hq27 hm;iterate 17 (refine DA [0,1,2,3] TK Q ?_)
    refine DT ?_ (by kernel_rfl);exact aE 1 Q (aT [0,1,2,3] hm Q Q)
   refine WN [3,7,8,9,10,11,85] Q Q (bH hm Q (λh33 hm=>?_) (λh33 hm=>?_))
   ·exact aR 4 Q (VE hm λe34 he34 hm=>SX Q Q (bA TK Q Q Q Q he34) (aG 1 Q (SX Q Q (cF [.tmp 90] TK Q Q bX Q Q Q Q Q) (GE hm λg35 hm=>cB (f:=Aa.enc) ([e34]:List Aa) TK Q Q bX Q Q Q Q Q (λh=>absurd h (zQV _)) Q bZ g35 Q Q (aG 6 Q (GE hm λg36 hm=>SX Q Q (bI Q Q Q Q g36) (aE 2 Q (aX [0,1,2,3] hm Q Q))))))))
   exact aR 5 Q (GE hm λg37 hm=>SX Q Q (bI Q Q Q Q g37) (aE 2 Q (aX [0,1,2,3] hm Q Q)))
  refine aM 2 Q (IE hm λv38 hm hz=>?_);rw [hz14 _ hz] at hm;exact WX (bD 1 Q (aT [0,1,2,3] hm Q Q))
 refine WN [10] Q Q (aM 6 Q ?_);obtain rfl:=OJ hm;exact EndsS.one _ Q (bQ Q) (.refl _)
theorem tS {p0:Al} {p1:Az} {p2:Int} {r:(List Int)} (hm:iX p0 p1 p2=some r):RetD TP 118 [p0.enc,p1.enc,.int .i64 p2] (.sl 1 (r.map (D.int .i64))):=by
 refine .of (mv:=λ_=>false) (aJ (aZ Q) func118 Q ntmps118 Q Q (λwX gX=>?_));unfold iX at hm;refine WN [0,1,2] Q Q (aO 1 Q (bR 0 Q Q Q (bR 1 Q Q Q (aG 8 Q (VE hm λe1 he1 hm=>SX Q Q (bA TK Q Q Q Q he1) (aL 5 Q (bL hm Q (λh2 hm=>?_) (λh2 hm=>?_))))))))
 ·refine bM 4 Q (uS 6 [some 1] Q (aM 2 Q ?_));obtain rfl:=OJ hm;exact EndsS.one _ Q (.d _) (.refl _)
 refine bM 2 Q (cW (bJ follows (oJ [2] _ (.msl 2 1 0 (([]:List Int)).length) Q (eH Q) Q (qYZ [] Q Q (TK.sel Q) dF Q Q Q Q Q) (DA [] TK Q (DA [0] TK Q (DA [] TK Q (VE hm λe3 he3 hm=>DX [] Q Q (bA TK Q Q Q Q he3) ?_)))))));iterate 3 (refine DA [] TK Q ?_)
 refine DA [1] TK Q (DA [] TK Q (VE hm λe4 he4 hm=>DX [] Q Q (bA TK Q Q Q Q he4) ?_));iterate 2 (refine DA [] TK Q ?_)
 refine GE hm λg5 hm=>DX [] Q Q (yZ TK Q Q Q Q Q g5) ?_;refine DT ?_ (by kernel_rfl);refine GE hm λg6 hm=>cB (f:=(D.int .i64)) (sub e3.Ad e4.rel (e3.Ad.length:Int)) TK Q Q dF Q Q Q Q Q (λh=>absurd h (zQV _)) Q bZ g6 Q Q (aL 3 Q (WN [6] Q Q (aM 1 Q ?_)));obtain rfl:=OJ hm;exact EndsS.one _ Q (bQ Q) (.refl _)
theorem tU {p0:(List Int)} {p1:(List Int)} {r:Bool} (hm:kR p0 p1=some r):RetN TP 117 [.sl 1 (p0.map (D.int .i64)),.sl 1 (p1.map (D.int .i64))] (.bool (r)):=by
 refine .unit (aJ (aZ Q) func117 Q ntmps117 Q Q (λwX gX=>?_)) Q;unfold kR at hm;refine WN [0,1] Q Q (bN 4 Q (bF hm (λ_=>[]) (λ_=>[]) [] [] Q (λz1 hm hz1=>?_) (λj hm=>?_)))
 ·refine bN 5 Q (aV hm (λi3=>([(5,.d (.int .i64 i3))])) (λi3=>[]) [5] [0,1] [] Q k0 Q Q Q Q Q (λi3 z4 hm hz4=>WN [0,1,5] Q Q (aO 4 Q (SX Q Q (aN TK Q Q Q) (aL 3 Q (bL hm Q (λh5 hm=>?_) (λh5 hm=>?_)))))))
  ·refine aR 8 Q (VE hm λe6 he6 hm=>SX Q Q (bA TK Q Q Q Q he6) (aG 1 Q (c_N hm (rN ·) Q Q Q Q λr7 hm=>aL 2 Q (bH hm Q (λh8 hm=>?_) (λh8 hm=>?_)))))
   ·refine aM 7 Q (IE hm λv9 hm hz=>?_);rw [hz4 _ hz] at hm;refine WR (bD 1 Q (IE hm λv10 hm hz=>?_));rw [hz1 _ hz] at hm;exact WR (aS hm Q)
   exact aR 5 Q (GE hm λg11 hm=>SX Q Q (bI Q Q Q Q g11) (aE 2 Q (aX [] hm Q Q)))
  refine aM 2 Q (IE hm λv12 hm hz=>?_);rw [hz4 _ hz] at hm;exact WX (bD 1 Q (aX [] hm Q Q))
 exact WN [] Q Q (aM 5 Q (aS hm Q))
theorem tT {p0:Al} {p1:Az} {p2:Int} {r:(List Int)} (hm:iY p0 p1 p2=some r):RetD TP 119 [p0.enc,p1.enc,.int .i64 p2] (.sl 1 (r.map (D.int .i64))):=by
 refine .of (mv:=λ_=>false) (aJ (aZ Q) func119 Q ntmps119 Q Q (λwX gX=>?_));unfold iY at hm;refine WN [0,1,2] Q Q (aO 1 Q (bR 0 Q Q Q (bR 1 Q Q Q (aG 8 Q (VE hm λe1 he1 hm=>SX Q Q (bA TK Q Q Q Q he1) (aL 5 Q (bL hm Q (λh2 hm=>?_) (λh2 hm=>?_))))))))
 ·refine bM 4 Q (uS 6 [some 1] Q (aM 2 Q ?_));obtain rfl:=OJ hm;exact EndsS.one _ Q (.d _) (.refl _)
 refine aR 3 Q (qSB (f:=(D.int .i64)) 2 [] ([]:List Int) TK Q Q Q dF Q Q Q Q Q (aG 3 Q (VE hm λe3 he3 hm=>SX Q Q (bA TK Q Q Q Q he3) (aG 2 Q (GE hm λg4 hm=>cB (f:=(D.int .i64)) e3.Ao TK Q Q dF Q Q Q Q Q (λh=>absurd h (zQV _)) Q bZ g4 Q Q (aL 3 Q (WN [6] Q Q (aM 1 Q ?_))))))));obtain rfl:=OJ hm;exact EndsS.one _ Q (bQ Q) (.refl _)
theorem oH {p0:Al} {p1:Int} {p2:Int} {r:Bool} (hm:gD p0 p1 p2=some r):RetN TP 120 [p0.enc,.int .i64 p1,.int .i64 p2] (.bool (r)):=by
 refine .unit (aJ (aZ Q) func120 Q ntmps120 Q Q (λwX gX=>?_)) Q;unfold gD at hm;refine WN [0,1,2] Q Q (aO 1 Q (bR 0 Q Q Q (aL 3 Q (aP hm (λx1=>([(6,.d (.bool (x1)))])) (λx1=>[]) [6] [] Q (λz2 hm=>?_) (λx1 hm=>?_)))))
 ·refine cJ follows ?_;iterate 3 (refine DA [0] TK Q ?_)
  refine VE hm λe3 he3 hm=>DX [0] Q Q (bA TK Q Q Q Q he3) ?_;iterate 3 (refine DA [0] TK Q ?_)
  refine d_b [0] TK Q (λq4 hq4=>?_);cases q4
  ·replace hm:=JF hq4 hm;iterate 14 (refine DA [0] TK Q ?_)
   refine DT ?_ (by kernel_rfl);exact aE 2 Q (aT [0] hm Q Q)
  replace hm:=JT hq4 hm;iterate 3 (refine DA [0] TK Q ?_)
  refine VE hm λe5 he5 hm=>DX [0] Q Q (bA TK Q Q Q Q he5) ?_;iterate 5 (refine DA [0] TK Q ?_)
  refine VE hm λe6 he6 hm=>DX [0] Q Q (bA TK Q Q Q Q he6) ?_;iterate 4 (refine DA [0] TK Q ?_)
  refine DT ?_ (by kernel_rfl);exact aE 2 Q (aT [0] hm Q Q)
 exact WN [6] Q Q (aM 1 Q (aS hm Q))
theorem qIN {p0:Al} {p1:Az} {p2:Int} {p3:Int} {r:Bool} (hm:nP p0 p1 p2 p3=some r):RetN TP 58 [p0.enc,p1.enc,.int .i64 p2,.int .i64 p3] (.bool (r)):=by
 refine .unit (aJ (aZ Q) func58 Q ntmps58 Q Q (λwX gX=>?_)) Q;unfold nP at hm;refine WN [0,1,2,3] Q Q (aO 1 Q (bR 0 Q Q Q (bR 1 Q Q Q (aL 4 Q (aP hm (λx1=>([(35,.d (.bool (x1)))])) (λx1=>[]) [35] [2,3,4,5] Q (λz2 hm=>?_) (λx1 hm=>?_))))))
 ·refine cJ follows ?_;iterate 3 (refine DA [0,1] TK Q ?_)
  refine jN [0,1] hm (tS ·) Q Q Q Q λr3 hm=>?_;iterate 3 (refine DA [0,1] TK Q ?_)
  refine jN [0,1] hm (tS ·) Q Q Q Q λr4 hm=>dK [0,1] hm (tU ·) Q Q Q Q λr5 hm=>d_b [0,1] TK Q (λq6 hq6=>?_);cases q6
  ·replace hm:=JB hq6 hm;iterate 3 (refine DA [0,1] TK Q ?_)
   refine jN [0,1] hm (tT ·) Q Q Q Q λr7 hm=>?_;iterate 3 (refine DA [0,1] TK Q ?_)
   refine jN [0,1] hm (tS ·) Q Q Q Q λr8 hm=>dK [0,1] hm (tU ·) Q Q Q Q λr9 hm=>d_b [0,1] TK Q (λq10 hq10=>?_);cases q10
   ·replace hm:=JB hq10 hm;iterate 7 (refine DA [0,1] TK Q ?_)
    refine DT ?_ (by kernel_rfl);exact aE 1 Q (aT [0,1] hm Q Q)
   replace hm:=JA hq10 hm;iterate 3 (refine DA [0,1] TK Q ?_)
   refine dK [0,1] hm (oH ·) Q Q Q Q λr11 hm=>?_;iterate 3 (refine DA [0,1] TK Q ?_)
   refine DT ?_ (by kernel_rfl);exact aE 1 Q (aT [0,1] hm Q Q)
  replace hm:=JA hq6 hm;iterate 17 (refine DA [0,1] TK Q ?_)
  refine DT ?_ (by kernel_rfl);exact aE 1 Q (aT [0,1] hm Q Q)
 refine WN [2,3,4,5,35] Q Q (bH hm Q (λh12 hm=>?_) (λh12 hm=>?_))
 ·exact aM 6 Q (aS hm Q)
 refine bM 2 Q (aP hm (λx13=>([(8,.d (.bool (x13)))])) (λx13=>[]) [8] [] Q (λz14 hm=>?_) (λx13 hm=>?_))
 ·refine cJ follows ?_;iterate 3 (refine DA [0,1] TK Q ?_)
  refine jN [0,1] hm (tT ·) Q Q Q Q λr15 hm=>?_;iterate 3 (refine DA [0,1] TK Q ?_)
  refine jN [0,1] hm (tT ·) Q Q Q Q λr16 hm=>dK [0,1] hm (tU ·) Q Q Q Q λr17 hm=>DA [0,1] TK Q (d_b [0,1] TK Q (λq18 hq18=>?_));cases q18
  ·replace hm:=JB hq18 hm;iterate 3 (refine DA [0,1] TK Q ?_)
   refine dK [0,1] hm (oH ·) Q Q Q Q λr19 hm=>DA [0,1] TK Q (d_b [0,1] TK Q (λq20 hq20=>?_));cases q20
   ·replace hm:=JB hq20 hm;iterate 3 (refine DA [0,1] TK Q ?_)
    refine dK [0,1] hm (oH ·) Q Q Q Q λr21 hm=>DA [0,1] TK Q ?_;refine DT ?_ (by kernel_rfl);exact aE 2 Q (aT [0,1] hm Q Q)
   replace hm:=JA hq20 hm;iterate 5 (refine DA [0,1] TK Q ?_)
   refine DT ?_ (by kernel_rfl);exact aE 2 Q (aT [0,1] hm Q Q)
  replace hm:=JA hq18 hm;iterate 11 (refine DA [0,1] TK Q ?_)
  refine DT ?_ (by kernel_rfl);exact aE 2 Q (aT [0,1] hm Q Q)
 exact WN [8] Q Q (aM 1 Q (aS hm Q))
theorem xS {p0:Al} {p1:Az} {r:Bool} (hm:lB p0 p1=some r):RetN TP 22 [p0.enc,p1.enc] (.bool (r)):=by
 refine .unit (aJ (aZ Q) func22 Q ntmps22 Q Q (λwX gX=>?_)) Q;unfold lB at hm;refine WN [0,1] Q Q (aO 1 Q (bR 0 Q Q Q (bR 1 Q Q Q (aG 7 Q (c_N hm (qLD ·) Q Q Q Q λr1 hm=>aL 3 Q (bH hm Q (λh2 hm=>?_) (λh2 hm=>?_)))))))
 ·exact aM 6 Q (aS hm Q)
 refine bM 2 Q (bF hm (λ_=>[]) (λ_=>[]) [] [] Q (λz3 hm hz3=>?_) (λj hm=>?_))
 ·refine bN 5 Q (aV hm (λa5=>([(5,.d (.int .i64 a5))])) (λa5=>[]) [5] [2,3] [0,1] Q k0 Q Q Q Q Q (λa5 z6 hm hz6=>WN [2,3,5] Q Q (aO 5 Q (SX Q Q (aN TK Q Q Q) (aL 3 Q (bL hm Q (λh7 hm=>?_) (λh7 hm=>?_)))))))
  ·refine bM 2 Q (bF hm (λ_=>[]) (λ_=>[]) [] [2,3,5] Q (λz8 hm hz8=>?_) (λj hm=>?_))
   ·refine aO 5 Q (c_D hm (qIM ·) Q Q Q Q λr9 hm=>aL 3 Q (bF hm (λ_=>[]) (λ_=>[]) [] [2,3,5] Q (λz10 hm hz10=>?_) (λj hm=>?_)))
    ·refine bN 5 Q (aV hm (λi12=>([(7,.d (.int .i64 i12))])) (λi12=>[]) [7] [2,3,5,6] [0,1] Q k0 Q Q Q Q Q (λi12 z13 hm hz13=>WN [2,3,5,6,7] Q Q (aO 4 Q (SX Q Q (aN TK Q Q Q) (aL 3 Q (bL hm Q (λh14 hm=>?_) (λh14 hm=>?_)))))))
     ·refine bM 4 Q (bJ follows ?_);iterate 5 (refine DA [0,1] TK Q ?_)
      refine VE hm λe15 he15 hm=>DX [0,1] Q Q (bA TK Q Q Q Q he15) ?_;iterate 2 (refine DA [0,1] TK Q ?_)
      refine dK [0,1] hm (sD ·) Q Q Q Q λr16 hm=>VE hm λe17 he17 hm=>DX [0,1] Q Q (bA TK Q Q Q Q he17) ?_;iterate 3 (refine DA [0,1] TK Q ?_)
      refine VE hm λe18 he18 hm=>DX [0,1] Q Q (bA TK Q Q Q Q he18) ?_;iterate 3 (refine DA [0,1] TK Q ?_)
      refine DT ?_ (by kernel_rfl);refine aL 2 Q (WN [2,3,5,6,7,46] Q Q (eC hm Q (λh19 hm=>?_) (λh19 hm=>?_)))
      ·refine aM 7 Q (IE hm λv20 hm hz=>?_);rw [hz13 _ hz] at hm;refine WR (bD 1 Q (IE hm λv21 hm hz=>?_));rw [hz10 _ hz] at hm;refine WR (bD 1 Q (IE hm λv22 hm hz=>?_));rw [hz8 _ hz] at hm;refine WR (IE hm λv23 hm hz=>?_);rw [hz6 _ hz] at hm;refine WR (bD 1 Q (IE hm λv24 hm hz=>?_));rw [hz3 _ hz] at hm;exact WR (aS hm Q)
      exact aR 5 Q (GE hm λg25 hm=>SX Q Q (bI Q Q Q Q g25) (aE 2 Q (aX [0,1] hm Q Q)))
     refine aM 2 Q (IE hm λv26 hm hz=>?_);rw [hz13 _ hz] at hm;exact WX (bD 1 Q (aX [0,1] hm Q Q))
    refine WN [2,3,5] Q Q (bM 5 Q (aV hm (λb28=>([(8,.d (.int .i64 b28))])) (λb28=>[]) [8] [2,3,5] [0,1] Q k0 Q Q Q Q Q (λb28 z29 hm hz29=>WN [2,3,5,8] Q Q (aO 5 Q (SX Q Q (aN TK Q Q Q) (aL 3 Q (bL hm Q (λh30 hm=>?_) (λh30 hm=>?_))))))))
    ·refine bM 4 Q (aP hm (λx31=>([(64,.d (.bool (x31)))])) (λx31=>[]) [64] [2,3,5,8] Q (λz32 hm=>?_) (λx31 hm=>?_))
     ·refine aO 4 Q (SB TK Q (λq33 hq33=>?_));cases q33
      ·replace hm:=eM hq33 hm;exact aE 8 Q (aT [0,1] hm Q Q)
      replace hm:=eL hq33 hm;exact aG 4 Q (c_N hm (qIN ·) Q Q Q Q λr34 hm=>aE 3 Q (aT [0,1] hm Q Q))
     refine WN [2,3,5,8,64] Q Q (bH hm Q (λh35 hm=>?_) (λh35 hm=>?_))
     ·refine aM 7 Q (IE hm λv36 hm hz=>?_);rw [hz29 _ hz] at hm;refine WR (bD 2 Q (IE hm λv37 hm hz=>?_));rw [hz8 _ hz] at hm;refine WR (IE hm λv38 hm hz=>?_);rw [hz6 _ hz] at hm;refine WR (bD 1 Q (IE hm λv39 hm hz=>?_));rw [hz3 _ hz] at hm;exact WR (aS hm Q)
     exact aR 5 Q (GE hm λg40 hm=>SX Q Q (bI Q Q Q Q g40) (aE 2 Q (aX [0,1] hm Q Q)))
    refine aM 2 Q (IE hm λv41 hm hz=>?_);rw [hz29 _ hz] at hm;exact WX (bD 2 Q (aX [0,1] hm Q Q))
   exact WN [2,3,5] Q Q (aR 2 Q (GE hm λg42 hm=>SX Q Q (bI Q Q Q Q g42) (aE 2 Q (aX [0,1] hm Q Q))))
  refine aM 2 Q (IE hm λv43 hm hz=>?_);rw [hz6 _ hz] at hm;exact WX (bD 1 Q (aX [0,1] hm Q Q))
 exact WN [] Q Q (aM 5 Q (aS hm Q))
theorem qBP {p0:Am} {r:Bool} (hm:iV p0=some r):RetN TP 23 [p0.enc] (.bool (r)):=by
 refine .unit (aJ (aZ Q) func23 Q ntmps23 Q Q (λwX gX=>?_)) Q;unfold iV at hm;refine WN [0] Q Q (aO 1 Q (bR 0 Q Q Q (aL 3 Q (bF hm (λ_=>[]) (λ_=>[]) [] [1] Q (λz1 hm hz1=>?_) (λj hm=>?_)))))
 ·refine bN 5 Q (aV hm (λi3=>([(3,.d (.int .i64 i3))])) (λi3=>[]) [3] [1] [0] Q k0 Q Q Q Q Q (λi3 z4 hm hz4=>WN [1,3] Q Q (aO 5 Q (SX Q Q (aN TK Q Q Q) (aL 3 Q (bL hm Q (λh5 hm=>?_) (λh5 hm=>?_)))))))
  ·refine aR 8 Q (VE hm λe6 he6 hm=>SX Q Q (bA TK Q Q Q Q he6) (aG 1 Q (cK 1 Q Q zCX Q (aL 3 Q ?_))));refine cI [(44,.d (.bool (((decide (e6.pos < (0:Int)))||((decide ((2:Int) < e6.pos))||((decide (e6.goal < (1:Int)))||((decide ((2:Int) < e6.goal))||((decide (e6.timer < (0:Int)))||(decide ((3:Int) < e6.timer))))))))))] [44] [1,3] Q ?_ ?_
   ·refine aO 4 Q (SB TK Q (λq7 hq7=>?_));cases q7
    ·refine aG 4 Q (SB TK Q (λq8 hq8=>?_));cases q8
     ·refine aG 4 Q (SB TK Q (λq9 hq9=>?_));cases q9
      ·refine aG 4 Q (SB TK Q (λq10 hq10=>?_));cases q10
       ·refine aG 4 Q (SB TK Q (λq11 hq11=>?_));cases q11
        ·refine aE 5 Q ?_;exact⟨[0,1],Q,k0,aW (aI (aK (by first|(simp [hq7,hq8,hq9,hq10,hq11];done)|(simp only [hq7,hq8,hq9,hq10,hq11];simp))) Q) Q⟩
        refine aE 5 Q ?_;exact⟨[0,1],Q,k0,aW (aI (aK (by first|(simp [hq7,hq8,hq9,hq10,hq11];done)|(simp only [hq7,hq8,hq9,hq10,hq11];simp))) Q) Q⟩
       refine aE 10 Q ?_;exact⟨[0,1],Q,k0,aW (aI (aK (by first|(simp [hq7,hq8,hq9,hq10];done)|(simp only [hq7,hq8,hq9,hq10];simp))) Q) Q⟩
      refine aE 15 Q ?_;exact⟨[0,1],Q,k0,aW (aI (aK (by first|(simp [hq7,hq8,hq9];done)|(simp only [hq7,hq8,hq9];simp))) Q) Q⟩
     refine aE 20 Q ?_;exact⟨[0,1],Q,k0,aW (aI (aK (by first|(simp [hq7,hq8];done)|(simp only [hq7,hq8];simp))) Q) Q⟩
    refine aE 25 Q ?_;exact⟨[0,1],Q,k0,aW (aI (aK (by first|(simp [hq7];done)|(simp only [hq7];simp))) Q) Q⟩
   refine WN [1,3,44] Q Q (bH hm Q (λh12 hm=>?_) (λh12 hm=>?_))
   ·refine aM 7 Q (IE hm λv13 hm hz=>?_);rw [hz4 _ hz] at hm;refine WR (bD 1 Q (IE hm λv14 hm hz=>?_));rw [hz1 _ hz] at hm;exact WR (aS hm Q)
   exact aR 5 Q (GE hm λg15 hm=>SX Q Q (bI Q Q Q Q g15) (aE 2 Q (aX [0] hm Q Q)))
  refine aM 2 Q (IE hm λv16 hm hz=>?_);rw [hz4 _ hz] at hm;exact WX (bD 1 Q (aX [0] hm Q Q))
 refine WN [1] Q Q (cI [(2,.d (.bool (((decide ((p0.machines.length:Int)=(p0.Aq.Ae.length:Int)))&&(decide ((p0.clear.length:Int)=(p0.layout.Ah.length:Int)))))))] [2] [] Q ?_ ?_)
 ·refine aO 3 Q (SX Q Q (aN TK Q Q Q) (aG 3 Q (SX Q Q (aN TK Q Q Q) (aG 1 Q (SB TK Q (λq17 hq17=>?_))))));cases q17
  ·refine aE 11 Q ?_;exact⟨[0],Q,k0,aW (aI (aK (by first|(simp [hq17];done)|(simp only [hq17];simp))) Q) Q⟩
  refine aG 2 Q (SX Q Q (aN TK Q Q Q) (aG 3 Q (SX Q Q (aN TK Q Q Q) (aE 4 Q ?_))));exact⟨[0],Q,k0,aW (aI (aK (by first|(simp [hq17];done)|(simp only [hq17];simp))) Q) Q⟩
 exact WN [2] Q Q (aM 1 Q (aS hm Q))
theorem gV {p0:Int} {p1:Int} {p2:Int} {r:Bool} (hm:iD p0 p1 p2=some r):RetN TP 121 [.int .i64 p0,.int .i64 p1,.int .i64 p2] (.bool (r)):=by
 refine .unit (aJ (aZ Q) func121 Q ntmps121 Q Q (λwX gX=>?_)) Q;unfold iD at hm;refine WN [0,1,2] Q Q (bN 4 Q (cI [(6,.d (.bool (((decide (p1<=p0))&&(decide (p0<=p2))))))] [6] [] Q ?_ ?_))
 ·refine aO 4 Q (SB TK Q (λq1 hq1=>?_));cases q1
  ·refine aE 6 Q ?_;exact⟨[],Q,k0,aW (aI (aK (by first|(simp [hq1];done)|(simp only [hq1];simp))) Q) Q⟩
  refine aE 6 Q ?_;exact⟨[],Q,k0,aW (aI (aK (by first|(simp [hq1];done)|(simp only [hq1];simp))) Q) Q⟩
 exact WN [6] Q Q (aM 1 Q (aS hm Q))
theorem sB {p0:Bd} {r:Int} (hm:gR p0=some r):RetN TP 59 [p0.enc] (.int .i64 r):=by
 refine .unit (aJ (aZ Q) func59 Q ntmps59 Q Q (λwX gX=>?_)) Q;unfold gR at hm;refine WN [0] Q Q (aO 1 Q (bR 0 Q Q Q (aG 7 Q (c_N hm (zP ·) Q Q Q Q λr1 hm=>aL 3 Q (bH hm Q (λh2 hm=>?_) (λh2 hm=>?_))))))
 ·exact aM 6 Q (aS hm Q)
 refine bM 3 Q (aP hm (λx3=>([(34,.d (.bool (x3)))])) (λx3=>[]) [34] [1] Q (λz4 hm=>?_) (λx3 hm=>?_))
 ·refine aO 3 Q (c_N hm (gV ·) Q Q Q Q λr5 hm=>aG 1 Q (SB TK Q (λq6 hq6=>?_)));cases q6
  ·replace hm:=JB hq6 hm;refine aG 2 Q (c_N hm (gV ·) Q Q Q Q λr7 hm=>aG 2 Q (SB TK Q (λq8 hq8=>?_)));cases q8
   ·replace hm:=JB hq8 hm;refine aG 2 Q (c_N hm (gV ·) Q Q Q Q λr9 hm=>aG 2 Q (SB TK Q (λq10 hq10=>?_)));cases q10
    ·replace hm:=JB hq10 hm;refine aG 2 Q (c_N hm (gV ·) Q Q Q Q λr11 hm=>aG 2 Q (SB TK Q (λq12 hq12=>?_)));cases q12
     ·replace hm:=JB hq12 hm;exact aG 2 Q (c_N hm (gV ·) Q Q Q Q λr13 hm=>aE 3 Q (aT [0] hm Q Q))
     replace hm:=JA hq12 hm;exact aE 6 Q (aT [0] hm Q Q)
    replace hm:=JA hq10 hm;exact aE 12 Q (aT [0] hm Q Q)
   replace hm:=JA hq8 hm;exact aE 18 Q (aT [0] hm Q Q)
  replace hm:=JA hq6 hm;exact aE 24 Q (aT [0] hm Q Q)
 refine WN [1,34] Q Q (bH hm Q (λh14 hm=>?_) (λh14 hm=>?_))
 ·exact aM 6 Q (aS hm Q)
 refine bM 3 Q (aP hm (λx15=>([(58,.d (.bool (x15)))])) (λx15=>[]) [58] [] Q (λz16 hm=>?_) (λx15 hm=>?_))
 ·refine aO 5 Q (c_N hm (gV ·) Q Q Q Q λr17 hm=>aG 1 Q (SB TK Q (λq18 hq18=>?_)));cases q18
  ·replace hm:=JB hq18 hm;refine aG 2 Q (c_N hm (gV ·) Q Q Q Q λr19 hm=>aG 2 Q (SB TK Q (λq20 hq20=>?_)));cases q20
   ·replace hm:=JB hq20 hm;refine aG 2 Q (c_N hm (gV ·) Q Q Q Q λr21 hm=>aG 2 Q (SB TK Q (λq22 hq22=>?_)));cases q22
    ·replace hm:=JB hq22 hm;exact aG 2 Q (c_N hm (gV ·) Q Q Q Q λr23 hm=>aE 3 Q (aT [0] hm Q Q))
    replace hm:=JA hq22 hm;exact aE 6 Q (aT [0] hm Q Q)
   replace hm:=JA hq20 hm;exact aE 12 Q (aT [0] hm Q Q)
  replace hm:=JA hq18 hm;exact aE 18 Q (aT [0] hm Q Q)
 refine WN [58] Q Q (bH hm Q (λh24 hm=>?_) (λh24 hm=>?_))
 ·exact aM 6 Q (aS hm Q)
 exact aM 7 Q (aS hm Q)
theorem tZ {p0:Ag} {p1:An} {r:Int} (hm:kU p0 p1=some r):RetN TP 123 [p0.enc,p1.enc] (.int .i64 r):=by
 refine .unit (aJ (aZ Q) func123 Q ntmps123 Q Q (λwX gX=>?_)) Q;unfold kU at hm;exact WN [0,1] Q Q (aO 1 Q (bR 0 Q Q Q (bR 1 Q Q Q (aG 8 Q (VE hm λe1 he1 hm=>SX Q Q (bA TK Q Q Q Q he1) (aE 6 Q (aS hm Q)))))))
theorem qDW {p0:Ag} {p1:Bc} {r:Int} (hm:kG p0 p1=some r):RetN TP 124 [p0.enc,p1.enc] (.int .i64 r):=by
 refine .unit (aJ (aZ Q) func124 Q ntmps124 Q Q (λwX gX=>?_)) Q;unfold kG at hm;refine WN [0,1] Q Q (aO 1 Q (bR 0 Q Q Q (bR 1 Q Q Q (aL 9 Q (aP hm (λn1=>([(5,.d (.int .i64 n1))])) (λn1=>[]) [5] [] Q (λz2 hm=>?_) (λn1 hm=>?_))))))
 ·refine bN 5 Q (aV hm (λ(n5,i6)=>([(5,.d (.int .i64 n5)),(6,.d (.int .i64 i6))])) (λ(n5,i6)=>[]) [5,6] [2,3] [0,1] Q k0 Q Q Q Q Q (λs z7 hm hz7=>?_));obtain⟨n5,i6⟩:=s;refine WN [2,3,5,6] Q Q (aO 3 Q (GE hm λg8 hm=>SX Q Q (bI Q Q Q Q g8) (aG 2 Q (SX Q Q (aN TK Q Q Q) (aL 3 Q (bL hm Q (λh9 hm=>?_) (λh9 hm=>?_)))))))
  ·refine bM 4 Q (dC follows ?_);iterate 5 (refine DA [0,1] TK Q ?_)
   refine VE hm λe10 he10 hm=>DX [0,1] Q Q (bA TK Q Q Q Q he10) (DA [0,1] TK Q (dK [0,1] hm (tZ ·) Q Q Q Q λr11 hm=>GE hm λg12 hm=>DX [0,1] Q Q (bI Q Q Q Q g12) ?_));refine DT ?_ (by kernel_rfl);exact aL 4 Q (WN [2,3,5,6] Q Q (aR 2 Q (GE hm λg13 hm=>SX Q Q (bI Q Q Q Q g13) (aE 2 Q (aX [0,1] hm Q Q)))))
  refine aM 2 Q (IE hm λv14 hm hz=>?_);rw [hz7 _ hz] at hm;exact WX (bD 1 Q (aT [0,1] hm Q Q))
 exact WN [5] Q Q (aM 6 Q (aS hm Q))
theorem sF {p0:Ag} {p1:Bc} {r:Int} (hm:gS p0 p1=some r):RetN TP 60 [p0.enc,p1.enc] (.int .i64 r):=by
 refine .unit (aJ (aZ Q) func60 Q ntmps60 Q Q (λwX gX=>?_)) Q;unfold gS at hm;refine WN [0,1] Q Q (aO 1 Q (bR 0 Q Q Q (bR 1 Q Q Q (aL 4 Q (aP hm (λx1=>([(40,.d (.bool (x1)))])) (λx1=>[]) [40] [2,3] Q (λz2 hm=>?_) (λx1 hm=>?_))))))
 ·refine cJ follows ?_;iterate 3 (refine DA [0,1] TK Q ?_)
  refine dK [0,1] hm (xW ·) Q Q Q Q λr3 hm=>DA [0,1] TK Q (d_b [0,1] TK Q (λq4 hq4=>?_));cases q4
  ·replace hm:=JB hq4 hm;iterate 4 (refine DA [0,1] TK Q ?_)
   refine d_b [0,1] TK Q (λq5 hq5=>?_);cases q5
   ·replace hm:=JF hq5 hm;iterate 4 (refine DA [0,1] TK Q ?_)
    refine d_b [0,1] TK Q (λq6 hq6=>?_);cases q6
    ·replace hm:=JF hq6 hm;iterate 4 (refine DA [0,1] TK Q ?_)
     refine d_b [0,1] TK Q (λq7 hq7=>?_);cases q7
     ·replace hm:=JF hq7 hm;iterate 7 (refine DA [0,1] TK Q ?_)
      refine DX [0,1] Q Q (aN TK Q Q Q) (GE hm λg8 hm=>DX [0,1] Q Q (bI Q Q Q Q g8) (VE hm λe9 he9 hm=>DX [0,1] Q Q (bA TK Q Q Q Q he9) (DA [0,1] TK Q (dK [0,1] hm (tZ ·) Q Q Q Q λr10 hm=>?_))));iterate 2 (refine DA [0,1] TK Q ?_)
      refine DT ?_ (by kernel_rfl);exact aE 1 Q (aT [0,1] hm Q Q)
     replace hm:=JT hq7 hm;iterate 14 (refine DA [0,1] TK Q ?_)
     refine DT ?_ (by kernel_rfl);exact aE 1 Q (aT [0,1] hm Q Q)
    replace hm:=JT hq6 hm;iterate 19 (refine DA [0,1] TK Q ?_)
    refine DT ?_ (by kernel_rfl);exact aE 1 Q (aT [0,1] hm Q Q)
   replace hm:=JT hq5 hm;iterate 24 (refine DA [0,1] TK Q ?_)
   refine DT ?_ (by kernel_rfl);exact aE 1 Q (aT [0,1] hm Q Q)
  replace hm:=JA hq4 hm;iterate 29 (refine DA [0,1] TK Q ?_)
  refine DT ?_ (by kernel_rfl);exact aE 1 Q (aT [0,1] hm Q Q)
 refine WN [2,3,40] Q Q (bH hm Q (λh11 hm=>?_) (λh11 hm=>?_))
 ·exact aM 6 Q (aS hm Q)
 refine aR 5 Q (c_N hm (qDW ·) Q Q Q Q λr12 hm=>aL 4 Q (aP hm (λx13=>([(66,.d (.bool (x13)))])) (λx13=>[]) [66] [] Q (λz14 hm=>?_) (λx13 hm=>?_)))
 ·refine cJ follows ?_;iterate 4 (refine DA [0,1] TK Q ?_)
  refine d_b [0,1] TK Q (λq15 hq15=>?_);cases q15
  ·replace hm:=JF hq15 hm;iterate 2 (refine DA [0,1] TK Q ?_)
   refine DX [0,1] Q Q (aN TK Q Q Q) (DA [0,1] TK Q (d_b [0,1] TK Q (λq16 hq16=>?_)));cases q16
   ·replace hm:=JF hq16 hm;iterate 13 (refine DA [0,1] TK Q ?_)
    refine DT ?_ (by kernel_rfl);exact aE 1 Q (aT [0,1] hm Q Q)
   replace hm:=JT hq16 hm;iterate 4 (refine DA [0,1] TK Q ?_)
   refine VE hm λe17 he17 hm=>DX [0,1] Q Q (bA TK Q Q Q Q he17) (DA [0,1] TK Q (dK [0,1] hm (tZ ·) Q Q Q Q λr18 hm=>GE hm λg19 hm=>DX [0,1] Q Q (bI Q Q Q Q g19) ?_));iterate 5 (refine DA [0,1] TK Q ?_)
   refine DT ?_ (by kernel_rfl);exact aE 1 Q (aT [0,1] hm Q Q)
  replace hm:=JT hq15 hm;iterate 18 (refine DA [0,1] TK Q ?_)
  refine DT ?_ (by kernel_rfl);exact aE 1 Q (aT [0,1] hm Q Q)
 refine WN [66] Q Q (bH hm Q (λh20 hm=>?_) (λh20 hm=>?_))
 ·exact aM 6 Q (aS hm Q)
 exact aM 7 Q (aS hm Q)
theorem qIB {p0:Am} {r:Bool} (hm:nK p0=some r):RetN TP 24 [p0.enc] (.bool (r)):=by
 refine .unit (aJ (aZ Q) func24 Q ntmps24 Q Q (λwX gX=>?_)) Q;unfold nK at hm;refine WN [0] Q Q (aO 1 Q (bR 0 Q Q Q (aL 3 Q (bF hm (λ_=>[]) (λ_=>[]) [] [1] Q (λz1 hm hz1=>?_) (λj hm=>?_)))))
 ·refine bN 5 Q (aV hm (λi3=>([(3,.d (.int .i64 i3))])) (λi3=>[]) [3] [1] [0] Q k0 Q Q Q Q Q (λi3 z4 hm hz4=>WN [1,3] Q Q (aO 5 Q (SX Q Q (aN TK Q Q Q) (aL 3 Q (bL hm Q (λh5 hm=>?_) (λh5 hm=>?_)))))))
  ·refine aR 8 Q (VE hm λe6 he6 hm=>SX Q Q (bA TK Q Q Q Q he6) (aG 1 Q (cK 1 Q Q pK Q (cV 1 [some 3,none,none,none,none,none,none,none,none,none,none,none,none,none,none,none,none,none,none,none,none,none,none,none,some 4,some 2,none,none,none,none,none,none] Q Q (aG 7 Q (cK 2 Q Q yH Q (aL 3 Q (aP hm (λx7=>([(57,.d (.bool (x7)))])) (λx7=>[]) [57] [1,3] Q (λz8 hm=>?_) (λx7 hm=>?_)))))))))
   ·refine cJ follows ?_;iterate 2 (refine DA [0,1,2] TK Q ?_)
    refine d_b [0,1,2] TK Q (λq9 hq9=>?_);cases q9
    ·replace hm:=JF hq9 hm;iterate 15 (refine DA [0,1,2] TK Q ?_)
     refine dK [0,1,2] hm (sB ·) Q Q Q Q λr10 hm=>?_;iterate 2 (refine DA [0,1,2] TK Q ?_)
     refine d_b [0,1,2] TK Q (λq11 hq11=>?_);cases q11
     ·replace hm:=eM hq11 hm;iterate 4 (refine DA [0,1,2] TK Q ?_)
      refine dK [0,1,2] hm (sF ·) Q Q Q Q λr12 hm=>?_;iterate 2 (refine DA [0,1,2] TK Q ?_)
      refine d_b [0,1,2] TK Q (λq13 hq13=>?_);cases q13
      ·replace hm:=eM hq13 hm;iterate 7 (refine DA [0,1,2] TK Q ?_)
       refine DT ?_ (by kernel_rfl);exact aE 1 Q (aT [0,1,2] hm Q Q)
      replace hm:=eL hq13 hm;iterate 7 (refine DA [0,1,2] TK Q ?_)
      refine DT ?_ (by kernel_rfl);exact aE 1 Q (aT [0,1,2] hm Q Q)
     replace hm:=eL hq11 hm;iterate 15 (refine DA [0,1,2] TK Q ?_)
     refine DT ?_ (by kernel_rfl);exact aE 1 Q (aT [0,1,2] hm Q Q)
    replace hm:=JT hq9 hm;iterate 5 (refine DA [0,1,2] TK Q ?_)
    refine GE hm λg14 hm=>DX [0,1,2] Q Q (bI Q Q Q Q g14) (VE hm λe15 he15 hm=>DX [0,1,2] Q Q (bA TK Q Q Q Q he15) ?_);iterate 6 (refine DA [0,1,2] TK Q ?_)
    refine d_b [0,1,2] TK Q (λq16 hq16=>?_);cases q16
    ·replace hm:=JF hq16 hm;refine DA [0,1,2] TK Q (dK [0,1,2] hm (sB ·) Q Q Q Q λr17 hm=>?_);iterate 2 (refine DA [0,1,2] TK Q ?_)
     refine d_b [0,1,2] TK Q (λq18 hq18=>?_);cases q18
     ·replace hm:=eM hq18 hm;iterate 4 (refine DA [0,1,2] TK Q ?_)
      refine dK [0,1,2] hm (sF ·) Q Q Q Q λr19 hm=>?_;iterate 2 (refine DA [0,1,2] TK Q ?_)
      refine d_b [0,1,2] TK Q (λq20 hq20=>?_);cases q20
      ·replace hm:=eM hq20 hm;iterate 7 (refine DA [0,1,2] TK Q ?_)
       refine DT ?_ (by kernel_rfl);exact aE 1 Q (aT [0,1,2] hm Q Q)
      replace hm:=eL hq20 hm;iterate 7 (refine DA [0,1,2] TK Q ?_)
      refine DT ?_ (by kernel_rfl);exact aE 1 Q (aT [0,1,2] hm Q Q)
     replace hm:=eL hq18 hm;iterate 15 (refine DA [0,1,2] TK Q ?_)
     refine DT ?_ (by kernel_rfl);exact aE 1 Q (aT [0,1,2] hm Q Q)
    replace hm:=JT hq16 hm;iterate 20 (refine DA [0,1,2] TK Q ?_)
    refine DT ?_ (by kernel_rfl);exact aE 1 Q (aT [0,1,2] hm Q Q)
   refine WN [1,3,57] Q Q (bH hm Q (λh21 hm=>?_) (λh21 hm=>?_))
   ·refine aM 7 Q (IE hm λv22 hm hz=>?_);rw [hz4 _ hz] at hm;refine WR (bD 1 Q (IE hm λv23 hm hz=>?_));rw [hz1 _ hz] at hm;exact WR (aS hm Q)
   exact aR 5 Q (GE hm λg24 hm=>SX Q Q (bI Q Q Q Q g24) (aE 2 Q (aX [0] hm Q Q)))
  refine aM 2 Q (IE hm λv25 hm hz=>?_);rw [hz4 _ hz] at hm;exact WX (bD 1 Q (aX [0] hm Q Q))
 refine WN [1] Q Q (cI [(2,.d (.bool (((decide ((1:Int)<=(p0.units.length:Int)))&&(decide ((p0.units.length:Int)<=(6:Int)))))))] [2] [] Q ?_ ?_)
 ·refine aO 3 Q (SX Q Q (aN TK Q Q Q) (aG 1 Q (SB TK Q (λq26 hq26=>?_))));cases q26
  ·refine aE 7 Q ?_;exact⟨[0],Q,k0,aW (aI (aK (by first|(simp [hq26];done)|(simp only [hq26];simp))) Q) Q⟩
  refine aG 2 Q (SX Q Q (aN TK Q Q Q) (aE 4 Q ?_));exact⟨[0],Q,k0,aW (aI (aK (by first|(simp [hq26];done)|(simp only [hq26];simp))) Q) Q⟩
 exact WN [2] Q Q (aM 1 Q (aS hm Q))
theorem qFJ {p0:Am} {r:Bool} (hm:lV p0=some r):RetN TP 25 [p0.enc] (.bool (r)):=by
 refine .unit (aJ (aZ Q) func25 Q ntmps25 Q Q (λwX gX=>?_)) Q;unfold lV at hm;refine WN [0] Q Q (aO 1 Q (bR 0 Q Q Q (aL 4 Q ?_)));refine cI [(22,.d (.bool (((!(decide ((p0.center.tracks.length:Int)=(p0.units.length:Int))))||(!(decide ((p0.center.sessions.length:Int)=(p0.units.length:Int))))))))] [22] [1] Q ?_ ?_
 ·refine aO 4 Q (SX Q Q (aN TK Q Q Q) (aG 2 Q (SX Q Q (aN TK Q Q Q) (aG 1 Q (SB TK Q (λq1 hq1=>?_))))));cases q1
  ·refine aG 3 Q (SX Q Q (aN TK Q Q Q) (aG 2 Q (SX Q Q (aN TK Q Q Q) (aE 3 Q ?_))));exact⟨[0],Q,k0,aW (aI (aK (by first|(simp [hq1];done)|(simp only [hq1];simp))) Q) Q⟩
  refine aE 10 Q ?_;exact⟨[0],Q,k0,aW (aI (aK (by first|(simp [hq1];done)|(simp only [hq1];simp))) Q) Q⟩
 refine WN [1,22] Q Q (bH hm Q (λh2 hm=>?_) (λh2 hm=>?_))
 ·exact aM 6 Q (aS hm Q)
 refine bM 2 Q (bF hm (λ_=>[]) (λ_=>[]) [] [] Q (λz3 hm hz3=>?_) (λj hm=>?_))
 ·refine bN 5 Q (aV hm (λi5=>([(3,.d (.int .i64 i5))])) (λi5=>[]) [3] [1] [0] Q k0 Q Q Q Q Q (λi5 z6 hm hz6=>WN [1,3] Q Q (aO 5 Q (SX Q Q (aN TK Q Q Q) (aL 3 Q (bL hm Q (λh7 hm=>?_) (λh7 hm=>?_)))))))
  ·refine aR 8 Q (VE hm λe8 he8 hm=>SX Q Q (bA TK Q Q Q Q he8) (aL 7 Q (aP hm (λx9=>([(57,.d (.bool (x9)))])) (λx9=>[]) [57] [1,3] Q (λz10 hm=>?_) (λx9 hm=>?_))))
   ·refine aO 5 Q (VE hm λe11 he11 hm=>SX Q Q (bA TK Q Q Q Q he11) (aG 4 Q (SB TK Q (λq12 hq12=>?_))));cases q12
    ·replace hm:=eM hq12 hm;exact aG 4 Q (VE hm λe13 he13 hm=>SX Q Q (bA TK Q Q Q Q he13) (aE 6 Q (aT [0] hm Q Q)))
    replace hm:=eL hq12 hm;exact aE 11 Q (aT [0] hm Q Q)
   refine WN [1,3,57] Q Q (bH hm Q (λh14 hm=>?_) (λh14 hm=>?_))
   ·refine aM 7 Q (IE hm λv15 hm hz=>?_);rw [hz6 _ hz] at hm;refine WR (bD 1 Q (IE hm λv16 hm hz=>?_));rw [hz3 _ hz] at hm;exact WR (aS hm Q)
   exact aR 5 Q (GE hm λg17 hm=>SX Q Q (bI Q Q Q Q g17) (aE 2 Q (aX [0] hm Q Q)))
  refine aM 2 Q (IE hm λv18 hm hz=>?_);rw [hz6 _ hz] at hm;exact WX (bD 1 Q (aX [0] hm Q Q))
 exact WN [] Q Q (aM 5 Q (aS hm Q))
theorem qIE {p0:Al} {p1:A6} {r:Bool} (hm:nM p0 p1=some r):RetN TP 61 [p0.enc,p1.enc] (.bool (r)):=by
 refine .unit (aJ (aZ Q) func61 Q ntmps61 Q Q (λwX gX=>?_)) Q;unfold nM at hm;refine WN [0,1] Q Q (aO 1 Q (bR 0 Q Q Q (bR 1 Q Q Q (aL 4 Q ?_))));refine cI [(14,.d (.bool (((decide (p1.train < (1:Int)))||(decide ((99:Int) < p1.train))))))] [14] [2,3] Q ?_ ?_
 ·refine aO 4 Q (SB TK Q (λq1 hq1=>?_));cases q1
  ·refine aE 5 Q ?_;exact⟨[0,1],Q,k0,aW (aI (aK (by first|(simp [hq1];done)|(simp only [hq1];simp))) Q) Q⟩
  refine aE 5 Q ?_;exact⟨[0,1],Q,k0,aW (aI (aK (by first|(simp [hq1];done)|(simp only [hq1];simp))) Q) Q⟩
 refine WN [2,3,14] Q Q (bH hm Q (λh2 hm=>?_) (λh2 hm=>?_))
 ·exact aM 6 Q (aS hm Q)
 refine bM 2 Q (bF hm (λ_=>[]) (λ_=>[]) [] [] Q (λz3 hm hz3=>?_) (λj hm=>?_))
 ·refine bN 5 Q (aV hm (λi5=>([(5,.d (.int .i64 i5))])) (λi5=>[]) [5] [2,3] [0,1] Q k0 Q Q Q Q Q (λi5 z6 hm hz6=>WN [2,3,5] Q Q (aO 5 Q (SX Q Q (aN TK Q Q Q) (aL 3 Q (bL hm Q (λh7 hm=>?_) (λh7 hm=>?_)))))))
  ·refine aR 8 Q (VE hm λe8 he8 hm=>SX Q Q (bA TK Q Q Q Q he8) (aG 1 Q (cK 2 Q Q qUE Q (aL 3 Q ?_))));refine cI [(67,.d (.bool (((decide (e8.route < (0:Int)))||((decide ((p0.Ab.length:Int)<=e8.route))||((decide (e8.due < (0:Int)))||((decide ((1073741824:Int) < e8.due))||((decide (e8.run < (1:Int)))||((decide ((1000:Int) < e8.run))||((decide (e8.weight < (0:Int)))||(decide ((100:Int) < e8.weight))))))))))))] [67] [2,3,5] Q ?_ ?_
   ·refine aO 4 Q (SB TK Q (λq9 hq9=>?_));cases q9
    ·refine aG 4 Q (SX Q Q (aN TK Q Q Q) (aG 2 Q (SB TK Q (λq10 hq10=>?_))));cases q10
     ·refine aG 4 Q (SB TK Q (λq11 hq11=>?_));cases q11
      ·refine aG 4 Q (SB TK Q (λq12 hq12=>?_));cases q12
       ·refine aG 4 Q (SB TK Q (λq13 hq13=>?_));cases q13
        ·refine aG 4 Q (SB TK Q (λq14 hq14=>?_));cases q14
         ·refine aG 4 Q (SB TK Q (λq15 hq15=>?_));cases q15
          ·refine aE 5 Q ?_;exact⟨[0,1,2],Q,k0,aW (aI (aK (by first|(simp [hq9,hq10,hq11,hq12,hq13,hq14,hq15];done)|(simp only [hq9,hq10,hq11,hq12,hq13,hq14,hq15];simp))) Q) Q⟩
          refine aE 5 Q ?_;exact⟨[0,1,2],Q,k0,aW (aI (aK (by first|(simp [hq9,hq10,hq11,hq12,hq13,hq14,hq15];done)|(simp only [hq9,hq10,hq11,hq12,hq13,hq14,hq15];simp))) Q) Q⟩
         refine aE 10 Q ?_;exact⟨[0,1,2],Q,k0,aW (aI (aK (by first|(simp [hq9,hq10,hq11,hq12,hq13,hq14];done)|(simp only [hq9,hq10,hq11,hq12,hq13,hq14];simp))) Q) Q⟩
        refine aE 15 Q ?_;exact⟨[0,1,2],Q,k0,aW (aI (aK (by first|(simp [hq9,hq10,hq11,hq12,hq13];done)|(simp only [hq9,hq10,hq11,hq12,hq13];simp))) Q) Q⟩
       refine aE 20 Q ?_;exact⟨[0,1,2],Q,k0,aW (aI (aK (by first|(simp [hq9,hq10,hq11,hq12];done)|(simp only [hq9,hq10,hq11,hq12];simp))) Q) Q⟩
      refine aE 25 Q ?_;exact⟨[0,1,2],Q,k0,aW (aI (aK (by first|(simp [hq9,hq10,hq11];done)|(simp only [hq9,hq10,hq11];simp))) Q) Q⟩
     refine aE 30 Q ?_;exact⟨[0,1,2],Q,k0,aW (aI (aK (by first|(simp [hq9,hq10];done)|(simp only [hq9,hq10];simp))) Q) Q⟩
    refine aE 38 Q ?_;exact⟨[0,1,2],Q,k0,aW (aI (aK (by first|(simp [hq9];done)|(simp only [hq9];simp))) Q) Q⟩
   refine WN [2,3,5,67] Q Q (bH hm Q (λh16 hm=>?_) (λh16 hm=>?_))
   ·refine aM 7 Q (IE hm λv17 hm hz=>?_);rw [hz6 _ hz] at hm;refine WR (bD 1 Q (IE hm λv18 hm hz=>?_));rw [hz3 _ hz] at hm;exact WR (aS hm Q)
   exact aR 5 Q (GE hm λg19 hm=>SX Q Q (bI Q Q Q Q g19) (aE 2 Q (aX [0,1] hm Q Q)))
  refine aM 2 Q (IE hm λv20 hm hz=>?_);rw [hz6 _ hz] at hm;exact WX (bD 1 Q (aX [0,1] hm Q Q))
 exact WN [] Q Q (aM 5 Q (aS hm Q))
theorem qLC {p0:Al} {p1:(List A6)} {p2:Int} {r:Int} (hm:pX p0 p1 p2=some r):RetN TP 62 [p0.enc,.sl 2 (p1.map A6.enc),.int .i64 p2] (.int .i64 r):=by
 refine .unit (aJ (aZ Q) func62 Q ntmps62 Q Q (λwX gX=>?_)) Q;unfold pX at hm;refine WN [0,1,2] Q Q (aO 1 Q (bR 0 Q Q Q (aL 3 Q (bF hm (λ_=>[]) (λ_=>[]) [] [] Q (λz1 hm hz1=>?_) (λj hm=>?_)))))
 ·refine bN 5 Q (aV hm (λi3=>([(7,.d (.int .i64 i3))])) (λi3=>[]) [7] [1,2] [0] Q k0 Q Q Q Q Q (λi3 z4 hm hz4=>WN [1,2,7] Q Q (aO 4 Q (SX Q Q (aN TK Q Q Q) (aL 3 Q (bL hm Q (λh5 hm=>?_) (λh5 hm=>?_)))))))
  ·refine aR 7 Q (VE hm λe6 he6 hm=>SX Q Q (bA TK Q Q Q Q he6) (aL 6 Q (bL hm Q (λh7 hm=>?_) (λh7 hm=>?_))))
   ·refine bM 5 Q (WN [6] Q Q (aM 3 Q (IE hm λv8 hm hz=>?_)));rw [hz4 _ hz] at hm;refine WR (bD 1 Q (IE hm λv9 hm hz=>?_));rw [hz1 _ hz] at hm;exact WR (aS hm Q)
   exact aR 5 Q (GE hm λg10 hm=>SX Q Q (bI Q Q Q Q g10) (aE 2 Q (aX [0] hm Q Q)))
  refine aM 2 Q (IE hm λv11 hm hz=>?_);rw [hz4 _ hz] at hm;exact WX (bD 1 Q (aX [0] hm Q Q))
 exact WN [] Q Q (aM 5 Q (aS hm Q))
theorem qDT {p0:Ai} {p1:Ai} {r:Bool} (hm:sE p0 p1=some r):RetN TP 63 [p0.enc,p1.enc] (.bool (r)):=by
 refine .unit (aJ (aZ Q) func63 Q ntmps63 Q Q (λwX gX=>?_)) Q;unfold sE at hm;refine WN [0,1] Q Q (aO 1 Q (bR 0 Q Q Q (bR 1 Q Q Q (aL 3 Q (cI [(4,.d (.bool (((decide ((0:Int)<=p0.exit))&&(decide (p1.entry=p0.exit))))))] [4] [] Q ?_ ?_)))))
 ·refine aO 4 Q (SB TK Q (λq1 hq1=>?_));cases q1
  ·refine aE 8 Q ?_;exact⟨[0,1],Q,k0,aW (aI (aK (by first|(simp [hq1];done)|(simp only [hq1];simp))) Q) Q⟩
  refine aE 8 Q ?_;exact⟨[0,1],Q,k0,aW (aI (aK (by first|(simp [hq1];done)|(simp only [hq1];simp))) Q) Q⟩
 exact WN [4] Q Q (aM 1 Q (aS hm Q))
end Go.Proofs.YtofndjhpbonpbaaGreatDoor
