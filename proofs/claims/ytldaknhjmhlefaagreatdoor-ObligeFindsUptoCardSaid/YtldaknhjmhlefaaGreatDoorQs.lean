/- Texts of this proof, joined, without what it does not use. No condition. -/
import Derived.Ground.NamesProg
import Derived.Shelf.SlSortCmp.NoneTotal
import Derived.Shelf.Strconv.Itoa3
import Derived.Test.YtldaknhjmhlefaaGreatDoorQr

set_option maxHeartbeats 8000000
set_option linter.unusedSimpArgs false
set_option linter.unusedVariables false
set_option maxRecDepth 20000
namespace Go.Proofs.YtldaknhjmhlefaaGreatDoor
open Go Go.TL Go.Sort Go.Shelf Go.RowKit Go.Lib
def qKR:Go.Shelf.Ren:=⟨fun|6=>177|15=>219|14=>218|28=>245|29=>246|20=>237|21=>238|22=>239|23=>240|24=>241|25=>242|26=>243|27=>244|46=>252|47=>253|48=>254|49=>255|50=>256|57=>261|n=>n,fun|22=>85|24=>148|25=>192|3=>3|39=>229|0=>0|53=>257|55=>98|4=>4|46=>251|45=>250|50=>209|5=>5|9=>9|66=>264|70=>161|76=>272|77=>273|n=>n,fun|n=>n⟩
theorem qQF:Go.Proofs.SlLaysF0.n6 Tryz.prog qKR where
 mixed:=by kernel_rfl
 f6:=⟨Tryz.f177.name,by kernel_rfl,Tryz.func177.trans (congrArg some (by kernel_rfl))⟩
 f14:=⟨Tryz.f218.name,by kernel_rfl,Tryz.func218.trans (congrArg some (by kernel_rfl))⟩
 f15:=Tryz.func219.trans (congrArg some (by kernel_rfl))
 f20:=⟨Tryz.f237.name,by kernel_rfl,Tryz.func237.trans (congrArg some (by kernel_rfl))⟩
 f21:=⟨Tryz.f238.name,by kernel_rfl,Tryz.func238.trans (congrArg some (by kernel_rfl))⟩
 f22:=⟨Tryz.f239.name,by kernel_rfl,Tryz.func239.trans (congrArg some (by kernel_rfl))⟩
 f23:=⟨Tryz.f240.name,by kernel_rfl,Tryz.func240.trans (congrArg some (by kernel_rfl))⟩
 f24:=⟨Tryz.f241.name,by kernel_rfl,Tryz.func241.trans (congrArg some (by kernel_rfl))⟩
 f25:=⟨Tryz.f242.name,by kernel_rfl,Tryz.func242.trans (congrArg some (by kernel_rfl))⟩
 f26:=⟨Tryz.f243.name,by kernel_rfl,Tryz.func243.trans (congrArg some (by kernel_rfl))⟩
 f27:=⟨Tryz.f244.name,by kernel_rfl,Tryz.func244.trans (congrArg some (by kernel_rfl))⟩
 f28:=Tryz.func245.trans (congrArg some (by kernel_rfl))
 f29:=Tryz.func246.trans (congrArg some (by kernel_rfl))
 f46:=⟨Tryz.f252.name,by kernel_rfl,Tryz.func252.trans (congrArg some (by kernel_rfl))⟩
 f47:=Tryz.func253.trans (congrArg some (by kernel_rfl))
 f48:=Tryz.func254.trans (congrArg some (by kernel_rfl))
 f49:=⟨Tryz.f255.name,by kernel_rfl,Tryz.func255.trans (congrArg some (by kernel_rfl))⟩
 f50:=⟨Tryz.f256.name,by kernel_rfl,Tryz.func256.trans (congrArg some (by kernel_rfl))⟩
 f57:=⟨Tryz.f261.name,by kernel_rfl,Tryz.func261.trans (congrArg some (by kernel_rfl))⟩
 t0:=Tryz.underlying0
 a0:=Tryz.isAgg0
 z0:=Tryz.sizeOf0
 v0:=Tryz.zeroValue0
 t3:=Tryz.underlying3
 a3:=Tryz.isAgg3
 z3:=Tryz.sizeOf3
 v3:=Tryz.zeroValue3
 t4:=Tryz.underlying4
 a4:=Tryz.isAgg4
 z4:=Tryz.sizeOf4
 v4:=Tryz.zeroValue4
 t5:=Tryz.underlying5
 a5:=Tryz.isAgg5
 z5:=Tryz.sizeOf5
 v5:=Tryz.zeroValue5
 t9:=Tryz.underlying9
 a9:=Tryz.isAgg9
 z9:=Tryz.sizeOf9
 v9:=Tryz.zeroValue9
 t22:=Tryz.underlying85
 a22:=Tryz.isAgg85
 z22:=Tryz.sizeOf85
 v22:=Tryz.zeroValue85
 t25:=Tryz.underlying192
 a25:=Tryz.isAgg192
 z25:=Tryz.sizeOf192
 v25:=Tryz.zeroValue192
 t39:=Tryz.underlying229
 a39:=Tryz.isAgg229
 z39:=Tryz.sizeOf229
 v39:=Tryz.zeroValue229
 t45:=Tryz.underlying250
 a45:=Tryz.isAgg250
 z45:=Tryz.sizeOf250
 v45:=Tryz.zeroValue250
 t46:=Tryz.underlying251
 a46:=Tryz.isAgg251
 z46:=Tryz.sizeOf251
 v46:=Tryz.zeroValue251
 t50:=Tryz.underlying209
 a50:=Tryz.isAgg209
 z50:=Tryz.sizeOf209
 v50:=Tryz.zeroValue209
 t53:=Tryz.underlying257
 a53:=Tryz.isAgg257
 z53:=Tryz.sizeOf257
 v53:=Tryz.zeroValue257
 t55:=Tryz.underlying98
 a55:=Tryz.isAgg98
 z55:=Tryz.sizeOf98
 v55:=Tryz.zeroValue98
 t66:=Tryz.underlying264
 a66:=Tryz.isAgg264
 z66:=Tryz.sizeOf264
 v66:=Tryz.zeroValue264
 t70:=Tryz.underlying161
 a70:=Tryz.isAgg161
 z70:=Tryz.sizeOf161
 v70:=Tryz.zeroValue161
 t76:=Tryz.underlying272
 a76:=Tryz.isAgg272
 z76:=Tryz.sizeOf272
 v76:=Tryz.zeroValue272
 t77:=Tryz.underlying273
 a77:=Tryz.isAgg273
 z77:=Tryz.sizeOf273
 v77:=Tryz.zeroValue273
theorem pO {G:FuncId} {c:D} {cs:List D} {m:Setting→Setting→Option Int} (hs:SortOk m) (hfn:qMW c=some (G,cs)) (hclo:∀ a b r,m a b=some r→RetD Tryz.prog G ([a.enc,b.enc]++cs) (.int .i64 r)) (xs:List Setting) (hlen:xs.length≤1000000000):Ret Tryz.prog 177 [.flat 148 2 (xs.map Setting.enc)] (λ_=>false) [.msl 0 2 0 xs.length,.d c] (.tup []) [.flat 148 2 ((pV m xs).map Setting.enc)]:=by
 have hcb:aS Tryz.prog G=true:=by
  obtain⟨r,hr⟩:=hs.tot default default;obtain⟨_,_,_,h,_⟩:=hclo _ _ _ hr;exact h.1
 have hlt:ltOf (λx y=>(m x y).getD 0)=ltM m:=rfl
 have hS := qRZ (P := Tryz.prog) (F := 177) (G := G) (sz := 2) (f := Setting.enc) (c := c) (cs := cs) (cf := fun x y => (m x y).getD 0) (S := fun d => d.toList.mergeSort fun x y => !(ltM m) y x) 148 (fun _ => false) xs qYF (fun _ => rfl) (fun _ => rfl) (fun _ => rfl) hfn
  (λx y=>by obtain⟨r,hr⟩:=hs.tot x y;rw [hr];exact hclo x y r hr) (by omega) (by rw [List.length_mergeSort])
  (λp cap fv w=>AnyF.slices_SortFunc_none { qQF with } p cap fv w)
  (fun blk off cap cb d w hcl hH hb hl => AnyQ.slices_SortFunc_total qQF 2 Tryz.isAgg148 Tryz.sizeOf148 (fun x => (Setting.enc x).cells.map D.val) (fun _ => rfl) (fun x v hv => by obtain ⟨c, hc, rfl⟩ := List.mem_map.1 hv; simp only [Setting.enc, D.cells, zQB, List.not_mem_nil, or_false] at hc; rcases hc with rfl | rfl <;> rfl) (fun x y => (m x y).getD 0)
   ⟨hs.irrefl, hs.trans, hs.ntrans⟩ G cb blk off cap d w (qKI hcb) hcl hH hb hl hs.anti)
 rwa [show (xs.toArray.toList.mergeSort λx y=>!(ltM m) y x)=pV m xs from qKQ hs xs] at hS
def qMM:Go.Shelf.Ren:=⟨fun|171=>174|243=>216|246=>236|283=>248|284=>249|285=>250|286=>251|129=>246|317=>257|318=>258|319=>259|320=>260|337=>262|338=>263|n=>n,fun|3=>3|9=>9|2=>2|4=>4|171=>260|0=>0|53=>98|37=>245|5=>5|173=>262|212=>270|51=>257|20=>20|213=>271|46=>229|232=>275|233=>276|n=>n,fun|17=>0|18=>1|19=>2|n=>n⟩
theorem zCE:Go.Proofs.Lays.n171 Tryz.prog qMM where
 mixed:=by kernel_rfl
 f129:=Tryz.func246.trans (congrArg some (by kernel_rfl))
 f171:=Tryz.func174.trans (congrArg some (by kernel_rfl))
 f243:=Tryz.func216.trans (congrArg some (by kernel_rfl))
 f246:=Tryz.func236.trans (congrArg some (by kernel_rfl))
 f283:=Tryz.func248.trans (congrArg some (by kernel_rfl))
 f284:=Tryz.func249.trans (congrArg some (by kernel_rfl))
 f285:=Tryz.func250.trans (congrArg some (by kernel_rfl))
 f286:=Tryz.func251.trans (congrArg some (by kernel_rfl))
 f317:=Tryz.func257.trans (congrArg some (by kernel_rfl))
 f318:=Tryz.func258.trans (congrArg some (by kernel_rfl))
 f319:=Tryz.func259.trans (congrArg some (by kernel_rfl))
 f320:=Tryz.func260.trans (congrArg some (by kernel_rfl))
 f337:=Tryz.func262.trans (congrArg some (by kernel_rfl))
 f338:=Tryz.func263.trans (congrArg some (by kernel_rfl))
 t0:=Tryz.underlying0
 a0:=Tryz.isAgg0
 z0:=Tryz.sizeOf0
 v0:=Tryz.zeroValue0
 t2:=Tryz.underlying2
 a2:=Tryz.isAgg2
 z2:=Tryz.sizeOf2
 v2:=Tryz.zeroValue2
 t3:=Tryz.underlying3
 a3:=Tryz.isAgg3
 z3:=Tryz.sizeOf3
 v3:=Tryz.zeroValue3
 t4:=Tryz.underlying4
 a4:=Tryz.isAgg4
 z4:=Tryz.sizeOf4
 v4:=Tryz.zeroValue4
 t5:=Tryz.underlying5
 a5:=Tryz.isAgg5
 z5:=Tryz.sizeOf5
 v5:=Tryz.zeroValue5
 t9:=Tryz.underlying9
 a9:=Tryz.isAgg9
 z9:=Tryz.sizeOf9
 v9:=Tryz.zeroValue9
 t20:=Tryz.underlying20
 a20:=Tryz.isAgg20
 z20:=Tryz.sizeOf20
 v20:=Tryz.zeroValue20
 t37:=Tryz.underlying245
 a37:=Tryz.isAgg245
 z37:=Tryz.sizeOf245
 v37:=Tryz.zeroValue245
 t46:=Tryz.underlying229
 a46:=Tryz.isAgg229
 z46:=Tryz.sizeOf229
 v46:=Tryz.zeroValue229
 t51:=Tryz.underlying257
 a51:=Tryz.isAgg257
 z51:=Tryz.sizeOf257
 v51:=Tryz.zeroValue257
 t53:=Tryz.underlying98
 a53:=Tryz.isAgg98
 z53:=Tryz.sizeOf98
 v53:=Tryz.zeroValue98
 t171:=Tryz.underlying260
 a171:=Tryz.isAgg260
 z171:=Tryz.sizeOf260
 v171:=Tryz.zeroValue260
 t173:=Tryz.underlying262
 a173:=Tryz.isAgg262
 z173:=Tryz.sizeOf262
 v173:=Tryz.zeroValue262
 t212:=Tryz.underlying270
 a212:=Tryz.isAgg270
 z212:=Tryz.sizeOf270
 v212:=Tryz.zeroValue270
 t213:=Tryz.underlying271
 a213:=Tryz.isAgg271
 z213:=Tryz.sizeOf271
 t232:=Tryz.underlying275
 a232:=Tryz.isAgg275
 z232:=Tryz.sizeOf275
 v232:=Tryz.zeroValue275
 t233:=Tryz.underlying276
 a233:=Tryz.isAgg276
 z233:=Tryz.sizeOf276
 v233:=Tryz.zeroValue276
 g17:=by kernel_rfl
 g18:=by kernel_rfl
 g19:=by kernel_rfl
theorem qGO (i:Nat) (hi:i < 100):RetN Tryz.prog 174 [.int .i64 i] (.str ⟨(Go.Lib.decDigits i).toArray⟩):=qSA qYI λw=>Any.strconv_Itoa_small zCE i hi w
end Go.Proofs.YtldaknhjmhlefaaGreatDoor
set_option maxHeartbeats 8000000
set_option linter.unusedSimpArgs false
set_option linter.unusedVariables false
set_option maxRecDepth 20000
namespace Go.Proofs.YtldaknhjmhlefaaGreatDoor
open Go Go.TL
theorem qMJ {p0:Table} {r:Bool} (hm:vQ p0=some r):RetN Tryz.prog 32 [p0.enc] (.bool (r)):=by
 refine .unit (aG zEK Tryz.func32 Q Tryz.ntmps32 Q Q (λwX gX=>?_)) Q;unfold vQ at hm;refine WN [0] Q Q (RS (cM 0 Q Q Q (SA TK Q (TN (WN [1] Q Q (TQ ?_))))));refine fM [(20,.d (.bool (((decide ((80:Int) < (p0.routes.length:Int)))||((decide ((80:Int) < (p0.points.length:Int)))||(decide ((80:Int) < (p0.homes.length:Int))))))))] [20] [1] Q ?_ ?_
 ·refine TG (SA TK Q (SA TK Q (SX Q Q (aM TK Q Q Q) (SA TK Q (SB TK Q (λq1 hq1=>?_))))));cases q1
  ·refine SA TK Q (SA TK Q (SX Q Q (aM TK Q Q Q) (SA TK Q (SA TK Q (SB TK Q (λq2 hq2=>?_))))));cases q2
   ·refine SA TK Q (SA TK Q (SX Q Q (aM TK Q Q Q) (SA TK Q (SA TK Q (TN (WT ?_))))));exact⟨[0],Q,k0,bE (aK (aL (by first|(simp [hq1,hq2];done)|(simp only [hq1,hq2];simp))) Q) Q⟩
   iterate 5 (refine SA TK Q ?_)
   refine TN (WT ?_);exact⟨[0],Q,k0,bE (aK (aL (by first|(simp [hq1,hq2];done)|(simp only [hq1,hq2];simp))) Q) Q⟩
  iterate 11 (refine SA TK Q ?_)
  refine TN (WT ?_);exact⟨[0],Q,k0,bE (aK (aL (by first|(simp [hq1];done)|(simp only [hq1];simp))) Q) Q⟩
 refine WN [1,20] Q Q ?_;refine TC _ Q (λh3=>?_) (λh3=>?_)
 ·replace hm:=JA h3 hm;refine RS (SA TK Q (TN (WN [2] Q Q (TR (WR ?_)))));obtain rfl:=OJ hm;exact EndsS.one _ Q (.d _) (.refl _)
 replace hm:=JB h3 hm;refine TS (WT (WN [1] Q Q ?_));refine bK hm (λ_=>([]:Fr)) (λ_=>([]:List (Nat×Blk))) [] [] Q (λz4 hm hz4=>?_) (λj hm=>?_)
 ·refine RS (SA TK Q (SA TK Q (SX Q Q (aM TK Q Q Q) (SA TK Q (TN (WN [22,23,24] Q Q (TB (aO hm (λx6=>([(24,.d (.int .i64 x6))]:Fr)) (λx6=>([]:List (Nat×Blk))) [24] [22,23] [0] Q k0 Q Q Q Q Q (λx6 z7 hm hz7=>WN [22,23,24] Q Q ?_)))))))));refine RS (SA TK Q (TN (WN [22,23,24,25] Q Q (TQ ?_))));refine TC _ Q (λh8=>?_) (λh8=>?_)
  ·replace hm:=JT h8 hm;refine TS (WT (WN [22,23,24] Q Q (TQ (TB (RS (VE hm λe9 he9 hm=>SX Q Q (bF TK Q Q Q Q he9) (SA TK Q ?_)))))));refine cF 1 Q Q fL Q (cN 1 [none,none,none,some 3,some 2,some 1,none,none,some 3,some 2,some 1,some 2,some 1,some 2] Q Q (SA TK Q (TN (WN [4,22,23,24] Q Q ?_))));refine fM [(79,.d (.bool (((decide ((80:Int) < (e9.path.length:Int)))||((decide ((80:Int) < (e9.points.length:Int)))||((decide ((80:Int) < (e9.sections.length:Int)))||((decide ((80:Int) < (e9.over.length:Int)))||((decide ((80:Int) < (e9.overPoints.length:Int)))||((decide ((80:Int) < (e9.overSections.length:Int)))||((decide ((80:Int) < (e9.flank.length:Int)))||((decide ((80:Int) < (e9.guards.length:Int)))||(decide ((80:Int) < (e9.gaps.length:Int))))))))))))))] [79] [22,23,24] Q ?_ ?_
   ·refine TG (SA TK Q (SA TK Q (SX Q Q (aM TK Q Q Q) (SA TK Q (SB TK Q (λq10 hq10=>?_))))));cases q10
    ·refine SA TK Q (SA TK Q (SX Q Q (aM TK Q Q Q) (SA TK Q (SA TK Q (SB TK Q (λq11 hq11=>?_))))));cases q11
     ·refine SA TK Q (SA TK Q (SX Q Q (aM TK Q Q Q) (SA TK Q (SA TK Q (SB TK Q (λq12 hq12=>?_))))));cases q12
      ·refine SA TK Q (SA TK Q (SX Q Q (aM TK Q Q Q) (SA TK Q (SA TK Q (SB TK Q (λq13 hq13=>?_))))));cases q13
       ·refine SA TK Q (SA TK Q (SX Q Q (aM TK Q Q Q) (SA TK Q (SA TK Q (SB TK Q (λq14 hq14=>?_))))));cases q14
        ·refine SA TK Q (SA TK Q (SX Q Q (aM TK Q Q Q) (SA TK Q (SA TK Q (SB TK Q (λq15 hq15=>?_))))));cases q15
         ·refine SA TK Q (SA TK Q (SX Q Q (aM TK Q Q Q) (SA TK Q (SA TK Q (SB TK Q (λq16 hq16=>?_))))));cases q16
          ·refine SA TK Q (SA TK Q (SX Q Q (aM TK Q Q Q) (SA TK Q (SA TK Q (SB TK Q (λq17 hq17=>?_))))));cases q17
           ·refine SA TK Q (SA TK Q (SX Q Q (aM TK Q Q Q) (SA TK Q (SA TK Q (TN (WT ?_))))));exact⟨[0,1],Q,k0,bE (aK (aL (by first|(simp [hq10,hq11,hq12,hq13,hq14,hq15,hq16,hq17];done)|(simp only [hq10,hq11,hq12,hq13,hq14,hq15,hq16,hq17];simp))) Q) Q⟩
           iterate 5 (refine SA TK Q ?_)
           refine TN (WT ?_);exact⟨[0,1],Q,k0,bE (aK (aL (by first|(simp [hq10,hq11,hq12,hq13,hq14,hq15,hq16,hq17];done)|(simp only [hq10,hq11,hq12,hq13,hq14,hq15,hq16,hq17];simp))) Q) Q⟩
          iterate 11 (refine SA TK Q ?_)
          refine TN (WT ?_);exact⟨[0,1],Q,k0,bE (aK (aL (by first|(simp [hq10,hq11,hq12,hq13,hq14,hq15,hq16];done)|(simp only [hq10,hq11,hq12,hq13,hq14,hq15,hq16];simp))) Q) Q⟩
         iterate 17 (refine SA TK Q ?_)
         refine TN (WT ?_);exact⟨[0,1],Q,k0,bE (aK (aL (by first|(simp [hq10,hq11,hq12,hq13,hq14,hq15];done)|(simp only [hq10,hq11,hq12,hq13,hq14,hq15];simp))) Q) Q⟩
        iterate 23 (refine SA TK Q ?_)
        refine TN (WT ?_);exact⟨[0,1],Q,k0,bE (aK (aL (by first|(simp [hq10,hq11,hq12,hq13,hq14];done)|(simp only [hq10,hq11,hq12,hq13,hq14];simp))) Q) Q⟩
       iterate 29 (refine SA TK Q ?_)
       refine TN (WT ?_);exact⟨[0,1],Q,k0,bE (aK (aL (by first|(simp [hq10,hq11,hq12,hq13];done)|(simp only [hq10,hq11,hq12,hq13];simp))) Q) Q⟩
      iterate 35 (refine SA TK Q ?_)
      refine TN (WT ?_);exact⟨[0,1],Q,k0,bE (aK (aL (by first|(simp [hq10,hq11,hq12];done)|(simp only [hq10,hq11,hq12];simp))) Q) Q⟩
     iterate 41 (refine SA TK Q ?_)
     refine TN (WT ?_);exact⟨[0,1],Q,k0,bE (aK (aL (by first|(simp [hq10,hq11];done)|(simp only [hq10,hq11];simp))) Q) Q⟩
    iterate 47 (refine SA TK Q ?_)
    refine TN (WT ?_);exact⟨[0,1],Q,k0,bE (aK (aL (by first|(simp [hq10];done)|(simp only [hq10];simp))) Q) Q⟩
   refine WN [22,23,24,79] Q Q ?_;refine TC _ Q (λh18=>?_) (λh18=>?_)
   ·replace hm:=JA h18 hm;refine RS (SA TK Q (TN (WN [2] Q Q (TR (WB (WR (IE hm λv19 hm hz=>?_)))))));rw [hz7 _ hz] at hm;refine WR (WB (IE hm λv20 hm hz=>?_));rw [hz4 _ hz] at hm;refine WR ?_;obtain rfl:=OJ hm;exact EndsS.one _ Q (.d _) (.refl _)
   replace hm:=JB h18 hm;refine TS (WK (WT (WN [22,23,24] Q Q (TG (GE hm λg21 hm=>SX Q Q (aU Q Q Q Q g21) (SA TK Q (TN ?_)))))));refine WT ?_;exact⟨_,[0],(SJ hm),Q,k0,Q⟩
  replace hm:=JF h8 hm;refine aE (WX (IE hm λv22 hm hz=>?_));rw [hz7 _ hz] at hm;refine WX (WH (WT ?_));exact⟨_,[0],(SJ hm),Q,k0,Q⟩
 refine WN [] Q Q (RS (SA TK Q (TN (WN [2] Q Q (TR ?_)))));obtain rfl:=OJ hm;exact EndsS.one _ Q (.d _) (.refl _)
theorem qGN {p0:Table} {r:Bool} (hm:nE p0=some r):RetN Tryz.prog 9 [p0.enc] (.bool (r)):=by
 refine .unit (aG callB9 Tryz.func9 Q Tryz.ntmps9 Q Q (λwX gX=>?_)) Q;unfold nE at hm;refine WN [0] Q Q (RS (cM 0 Q Q Q (SA TK Q (TN (WN [1] Q Q ?_)))));refine aH hm (λx1=>([(2,.d (.bool (x1)))]:Fr)) (λx1=>([]:List (Nat×Blk))) [2] [] Q (λz2 hm=>?_) (λx1 hm=>?_)
 ·refine TG (SA TK Q (BE hm λr3 hr3 hm=>SX Q Q (RN Q Q (SC (.d _) SN) (qMJ hr3)) (SB TK Q (λq4 hq4=>?_))));cases q4
  ·replace hm:=JB hq4 hm;iterate 6 (refine SA TK Q ?_)
   refine TN (WT ?_);exact⟨_,[0],(SJ hm),Q,k0,Q⟩
  replace hm:=JA hq4 hm;refine SA TK Q (SA TK Q (SX Q Q (aM TK Q Q Q) (SA TK Q (SA TK Q (SA TK Q (TN (WT ?_)))))));exact⟨_,[0],(SJ hm),Q,k0,Q⟩
 refine WN [2] Q Q (TR ?_);obtain rfl:=OJ hm;exact EndsS.one _ Q (.d _) (.refl _)
theorem qJN  {r:Layout} (hm:xQ=some r):RetD Tryz.prog 33 [] (r.enc):=by
 refine .of (mv:=λ_=>false) (aG zEJ Tryz.func33 Q Tryz.ntmps33 Q Q (λwX gX=>?_));unfold xQ at hm;refine WN [] Q Q (RS (cF 0 Q Q qNS Q (eB (f:=Element.enc) 0 2 1 123 7 Q Q Q (cN 0 [none,some 1,none,some 4,some 4,some 3] Q Q (TN (WN [0] Q Q (RS (SX Q Q (cX [.const (Value.string ⟨#[120]⟩),.const (Value.string ⟨#[121]⟩),.const (Value.string ⟨#[122]⟩)] TK Q Q kD Q Q Q Q Q) ?_))))))));refine SX Q Q (gK Q plc71 qNS Q Q Q Q) (cF 2 Q Q qNS Q (eB (f:=Element.enc) 2 2 3 123 7 Q Q Q (cN 2 [none,some 1,none,some 4,some 4,some 3] Q Q (SA TK Q (eB (f:=Element.enc) 2 2 4 123 7 Q Q Q (cN 2 [none,none,none,some 4,some 4,some 3] Q Q (TN (WN [0,1] Q Q ?_))))))));refine aH hm (λb1=>([]:Fr)) (λb1=>([(2,.box 71 [.d (.str (⟨#[108,105,110,101]⟩:ByteArray)),.d (.sl 1 (([(⟨#[120]⟩:ByteArray),(⟨#[121]⟩:ByteArray),(⟨#[122]⟩:ByteArray)]:List ByteArray).map D.str)),.msl 4 7 0 b1.length,.d (.sl 4 (([]:List Joint).map Joint.enc)),.d (.sl 4 (([]:List Signal).map Signal.enc)),.d (.sl 3 (([]:List Balise).map Balise.enc))]),(4,.flat 123 7 (b1.map Element.enc))]:List (Nat×Blk))) [] [0,1] Q (λz2 hm=>?_) (λb1 hm=>?_)
 ·refine RS (SX Q Q (cX [.const (Value.string ⟨#[97]⟩),.const (Value.string ⟨#[98]⟩),.const (Value.string ⟨#[99]⟩)] TK Q Q kD Q Q Q Q Q) (SX Q Q (aM (f:=D.str) (xs:=([(⟨#[97]⟩:ByteArray),(⟨#[98]⟩:ByteArray),(⟨#[99]⟩:ByteArray)]:List ByteArray)) TK Q Q Q) (SA TK Q (TN (WN [0,1,6,7,8] Q Q (TB (aO hm (λ(x6,b7)=>([(8,.d (.int .i64 x6))]:Fr)) (λ(x6,b7)=>([(2,.box 71 [.d (.str (⟨#[108,105,110,101]⟩:ByteArray)),.d (.sl 1 (([(⟨#[120]⟩:ByteArray),(⟨#[121]⟩:ByteArray),(⟨#[122]⟩:ByteArray)]:List ByteArray).map D.str)),.msl 4 7 0 b7.length,.d (.sl 4 (([]:List Joint).map Joint.enc)),.d (.sl 4 (([]:List Signal).map Signal.enc)),.d (.sl 3 (([]:List Balise).map Balise.enc))]),(4,.flat 123 7 (b7.map Element.enc))]:List (Nat×Blk))) [8] [0,1,6,7] [0,1,2,3,4] Q k0 Q Q Q Q Q (λs z8 hm hz8=>?_))))))));obtain⟨x6,b7⟩:=s;refine WN [0,1,6,7,8] Q Q (RS (SA TK Q (TN (WN [0,1,6,7,8,9] Q Q (TQ ?_)))));refine TC _ Q (λh9=>?_) (λh9=>?_)
  ·replace hm:=JT h9 hm;refine TS (WT (WN [0,1,6,7,8] Q Q (TQ (TB (RS (SA TK Q (VE hm λe10 he10 hm=>SX Q Q (bF (f:=D.str) (xs:=([(⟨#[97]⟩:ByteArray),(⟨#[98]⟩:ByteArray),(⟨#[99]⟩:ByteArray)]:List ByteArray)) TK Q Q Q Q he10) ?_)))))));refine SA TK Q (SA TK Q (SA TK Q (TN (WN [0,1,2,3,6,7,8] Q Q (TG ?_)))));iterate 4 (refine SA TK Q ?_)
   refine SX Q Q (bR Q plc123 rX Q Q Q Q) (SX Q Q (cX [.tmp 17] TK Q Q rX Q Q Q Q Q) (GE hm λg11 hm=>dM (f:=Element.enc) ([(⟨e10,(1:Int),(20000:Int),(0:Int),(3000:Int),(0:Int),x6⟩:Element)]:List Element) TK Q Q rX Q Q Q Q Q (λh=>absurd h (zQV _)) Q dD g11 Q Q (SA TK Q (SA TK Q (TN (WK (WT (WN [0,1,6,7,8] Q Q ?_))))))));refine TG (GE hm λg12 hm=>SX Q Q (aU Q Q Q Q g12) (SA TK Q (TN (WT ?_))));exact⟨_,[0,1,2,3,4],(SJ hm),Q,k0,Q⟩
  replace hm:=JF h9 hm;refine aE (WX (IE hm λv13 hm hz=>?_));rw [hz8 _ hz] at hm;refine WX (WH (WT ?_));exact⟨_,[0,1,2,3,4],(SJ hm),Q,k0,Q⟩
 refine WN [0,1] Q Q (RS (SX Q Q (bR Q pD dV Q Q Q Q) (SX Q Q (bR Q pD dV Q Q Q Q) (SX Q Q (bR Q qUU xZ Q Q Q Q) (SX Q Q (bR Q pD dV Q Q Q Q) (SX Q Q (bR Q pD dV Q Q Q Q) (SX Q Q (bR Q qUU xZ Q Q Q Q) (SX Q Q (cX [.tmp 24,.tmp 27] TK Q Q xZ Q Q Q Q Q) ?_))))))));refine SA TK Q (SA TK Q (TN (WN [0,1] Q Q (RS (SX Q Q (bR Q pD dV Q Q Q Q) (SX Q Q (bR Q qOQ nS Q Q Q Q) (SX Q Q (bR Q pD dV Q Q Q Q) (SX Q Q (bR Q qOQ nS Q Q Q Q) (SX Q Q (cX [.tmp 31,.tmp 33] TK Q Q nS Q Q Q Q Q) ?_)))))))));refine SA TK Q (SA TK Q (TN (WN [0,1] Q Q (RS (SA TK Q (SA TK Q (TN (WN [0] Q Q (TR ?_)))))))));obtain rfl:=OJ hm;exact EndsS.cellR _ TK Q Q Q Q Q (fG (.cons (.d _) Q (.cons (.d _) Q (.cons (bO Q) Q (.cons (.d _) Q (.cons (.d _) Q (.cons (.d _) Q .nil)))))))
theorem qGB {p0:Layout} {r:A3_string} (hm:tX p0=some r):RetD Tryz.prog 222 [p0.enc] (r.enc):=by
 refine .of (mv:=λ_=>false) (aG qWS Tryz.func222 Q Tryz.ntmps222 Q Q (λwX gX=>?_));unfold tX at hm;refine WN [0] Q Q (RS (cM 0 Q Q Q (cF 1 Q Q qCH Q (eB (f:=D.str) 1 0 2 9 1 Q Q Q (eB (f:=D.str) 1 1 3 9 1 Q Q Q (eB (f:=D.str) 1 2 4 9 1 Q Q Q (TN (WN [1,2] Q Q ?_))))))));refine RS (SX Q Q (qOO Q zBM qCH Q Q Q Q) (cF 5 Q Q qCH Q (eB (f:=D.str) 5 0 6 9 1 Q Q Q (eB (f:=D.str) 5 1 7 9 1 Q Q Q (eB (f:=D.str) 5 2 8 9 1 Q Q Q (SA TK Q (eB (f:=D.str) 5 0 9 9 1 Q Q Q (eB (f:=D.str) 5 1 10 9 1 Q Q Q ?_))))))));refine eB (f:=D.str) 5 2 11 9 1 Q Q Q (TN (WN [1,2,3] Q Q (RS ?_)));refine SX Q Q (gQ Q kS Q Q (by decide) (by decide) Q) ?_;refine SA TK Q (SA TK Q (SA TK Q (GE hm λg1 hm=>dM (f:=D.str) p0.sections TK Q Q kD Q Q Q Q Q (λh=>absurd h (zQV _)) Q dD g1 Q Q ?_)));refine SX Q Q (gQ Q kS Q Q (by decide) (by decide) Q) ?_;refine SA TK Q (TN (WN [1,2,3] Q Q ?_));refine aH hm (λb2=>([]:Fr)) (λb2=>([(5,.box 233 [.msl 9 1 0 (([]:List ByteArray)++p0.sections).length,.msl 10 1 0 b2.length,.msl 11 1 0 ([]:List ByteArray).length]),(10,.flat 9 1 (b2.map D.str))]:List (Nat×Blk))) [] [1,2,3] Q (λz3 hm=>?_) (λb2 hm=>?_)
 ·refine RS (SA TK Q (SA TK Q (SX Q Q (aM TK Q Q Q) (SA TK Q (TN (WN [1,2,3,16,17,18] Q Q (TB (aO hm (λ(x7,b8)=>([(18,.d (.int .i64 x7))]:Fr)) (λ(x7,b8)=>([(5,.box 233 [.msl 9 1 0 (([]:List ByteArray)++p0.sections).length,.msl 10 1 0 b8.length,.msl 11 1 0 ([]:List ByteArray).length]),(10,.flat 9 1 (b8.map D.str))]:List (Nat×Blk))) [18] [1,2,3,16,17] [0,1,2,3,4,5,6,7,8,9,10,11] Q k0 Q Q Q Q Q (λs z9 hm hz9=>?_)))))))));obtain⟨x7,b8⟩:=s;refine WN [1,2,3,16,17,18] Q Q (RS (SA TK Q (TN (WN [1,2,3,16,17,18,19] Q Q (TQ ?_)))));refine TC _ Q (λh10=>?_) (λh10=>?_)
  ·replace hm:=JT h10 hm;refine TS (WT (WN [1,2,3,16,17,18] Q Q (TQ (TB (RS (VE hm λe11 he11 hm=>SX Q Q (bF TK Q Q Q Q he11) (SA TK Q ?_)))))));refine cF 12 Q Q rX Q (SA TK Q (TN (WN [1,2,3,5,16,17,18] Q Q (TG ?_))));refine SX Q Q (gQ Q kS Q Q (by decide) (by decide) Q) ?_;refine SA TK Q (SA TK Q (SA TK Q (SX Q Q (cX [.tmp 25] TK Q Q kD Q Q Q Q Q) (GE hm λg12 hm=>dM (f:=D.str) ([e11.name]:List ByteArray) TK Q Q kD Q Q Q Q Q (λh=>absurd h (zQV _)) Q dD g12 Q Q ?_))));refine SX Q Q (gQ Q kS Q Q (by decide) (by decide) Q) ?_;refine SA TK Q (TN (WK (WT (WN [1,2,3,16,17,18] Q Q (TG (GE hm λg13 hm=>SX Q Q (aU Q Q Q Q g13) (SA TK Q ?_)))))));refine TN (WT ?_);exact⟨_,[0,1,2,3,4,5,6,7,8,9,10,11],(SJ hm),Q,k0,Q⟩
  replace hm:=JF h10 hm;refine aE (WX (IE hm λv14 hm hz=>?_));rw [hz9 _ hz] at hm;refine WX (WH (WT ?_));exact⟨_,[0,1,2,3,4,5,6,7,8,9,10,11],(SJ hm),Q,k0,Q⟩
 refine WN [1,2,3] Q Q ?_;refine aH hm (λb15=>([]:Fr)) (λb15=>([(5,.box 233 [.msl 9 1 0 (([]:List ByteArray)++p0.sections).length,.msl 10 1 0 b2.length,.msl 11 1 0 b15.length]),(11,.flat 9 1 (b15.map D.str))]:List (Nat×Blk))) [] [2,3] Q (λz16 hm=>?_) (λb15 hm=>?_)
 ·refine RS (SA TK Q (SA TK Q (SX Q Q (aM TK Q Q Q) (SA TK Q (TN (WN [2,3,31,32,33] Q Q (TB (aO hm (λ(x20,b21)=>([(33,.d (.int .i64 x20))]:Fr)) (λ(x20,b21)=>([(5,.box 233 [.msl 9 1 0 (([]:List ByteArray)++p0.sections).length,.msl 10 1 0 b2.length,.msl 11 1 0 b21.length]),(11,.flat 9 1 (b21.map D.str))]:List (Nat×Blk))) [33] [2,3,31,32] [0,1,2,3,4,5,6,7,8,9,10,11] Q k0 Q Q Q Q Q (λs z22 hm hz22=>?_)))))))));obtain⟨x20,b21⟩:=s;refine WN [2,3,31,32,33] Q Q (RS (SA TK Q (TN (WN [2,3,31,32,33,34] Q Q (TQ ?_)))));refine TC _ Q (λh23=>?_) (λh23=>?_)
  ·replace hm:=JT h23 hm;refine TS (WT (WN [2,3,31,32,33] Q Q (TQ (TB (RS (VE hm λe24 he24 hm=>SX Q Q (bF TK Q Q Q Q he24) (SA TK Q ?_)))))));refine cF 12 Q Q nS Q (SA TK Q (TN (WN [2,3,7,31,32,33] Q Q (TG ?_))));refine SX Q Q (gQ Q kS Q Q (by decide) (by decide) Q) ?_;refine SA TK Q (SA TK Q (SA TK Q (SX Q Q (cX [.tmp 40] TK Q Q kD Q Q Q Q Q) (GE hm λg25 hm=>dM (f:=D.str) ([e24.name]:List ByteArray) TK Q Q kD Q Q Q Q Q (λh=>absurd h (zQV _)) Q dD g25 Q Q ?_))));refine SX Q Q (gQ Q kS Q Q (by decide) (by decide) Q) ?_;refine SA TK Q (TN (WK (WT (WN [2,3,31,32,33] Q Q (TG (GE hm λg26 hm=>SX Q Q (aU Q Q Q Q g26) (SA TK Q ?_)))))));refine TN (WT ?_);exact⟨_,[0,1,2,3,4,5,6,7,8,9,10,11],(SJ hm),Q,k0,Q⟩
  replace hm:=JF h23 hm;refine aE (WX (IE hm λv27 hm hz=>?_));rw [hz22 _ hz] at hm;refine WX (WH (WT ?_));exact⟨_,[0,1,2,3,4,5,6,7,8,9,10,11],(SJ hm),Q,k0,Q⟩
 refine WN [2,3] Q Q (RS (SA TK Q (SA TK Q (TN (WN [2] Q Q (TR ?_))))));obtain rfl:=OJ hm;exact EndsS.cellR _ TK Q Q Q Q Q (fG (.cons (bO Q) Q (.cons (bO Q) Q (.cons (bO Q) Q .nil))))
theorem qIU {p0:ByteArray} {r:Bool} (hm:xH p0=some r):RetN Tryz.prog 223 [.str p0] (.bool (r)):=by
 refine .unit (aG qWR Tryz.func223 Q Tryz.ntmps223 Q Q (λwX gX=>?_)) Q;unfold xH at hm;refine WN [0] Q Q (RS (SA TK Q (TN (WN [0] Q Q ?_))));refine bK hm (λ_=>([]:Fr)) (λ_=>([]:List (Nat×Blk))) [] [0] Q (λz1 hm hz1=>?_) (λj hm=>?_)
 ·refine RS (SA TK Q (TN (WN [0,3] Q Q (TB (aO hm (λi3=>([(3,.d (.int .i64 i3))]:Fr)) (λi3=>([]:List (Nat×Blk))) [3] [0] [] Q k0 Q Q Q Q Q (λi3 z4 hm hz4=>WN [0,3] Q Q (TQ (RS ?_))))))));iterate 4 (refine SA TK Q ?_)
  refine TN (WN [0,3,9] Q Q ?_);refine TC _ Q (λh5=>?_) (λh5=>?_)
  ·replace hm:=JT h5 hm;refine TS (WT (WN [0,3] Q Q (TQ (TB ?_))));refine aH hm (λletter6=>([(4,.d (.bool (letter6)))]:Fr)) (λletter6=>([]:List (Nat×Blk))) [4] [0,3] Q (λz7 hm=>?_) (λletter6 hm=>?_)
   ·refine TG (SA TK Q (SA TK Q (VE hm λe8 he8 hm=>SX Q Q (qGT Q Tryz.underlying9 Q Q he8) (SA TK Q (SB TK Q (λq9 hq9=>?_))))));cases q9
    ·replace hm:=JF hq9 hm;iterate 6 (refine SA TK Q ?_)
     refine TN (WT ?_);exact⟨_,[],(SJ hm),Q,k0,Q⟩
    replace hm:=JT hq9 hm;refine SA TK Q (SA TK Q (VE hm λe10 he10 hm=>SX Q Q (qGT Q Tryz.underlying9 Q Q he10) (SA TK Q (SA TK Q (SA TK Q (TN (WT ?_)))))));exact⟨_,[],(SJ hm),Q,k0,Q⟩
   refine WN [0,3,4] Q Q ?_;refine aH hm (λdigit11=>([(5,.d (.bool (digit11)))]:Fr)) (λdigit11=>([]:List (Nat×Blk))) [5] [0,3,4] Q (λz12 hm=>?_) (λdigit11 hm=>?_)
   ·refine TG (SA TK Q (SA TK Q (VE hm λe13 he13 hm=>SX Q Q (qGT Q Tryz.underlying9 Q Q he13) (SA TK Q (SB TK Q (λq14 hq14=>?_))))));cases q14
    ·replace hm:=JF hq14 hm;iterate 8 (refine SA TK Q ?_)
     refine VE hm λe15 he15 hm=>SX Q Q (qGT Q Tryz.underlying9 Q Q he15) (SA TK Q (SA TK Q (SA TK Q (TN (WT ?_)))));exact⟨_,[],(SJ hm),Q,k0,Q⟩
    replace hm:=JT hq14 hm;refine SA TK Q (SA TK Q (VE hm λe16 he16 hm=>SX Q Q (qGT Q Tryz.underlying9 Q Q he16) (SA TK Q (SA TK Q (SB TK Q (λq17 hq17=>?_))))));cases q17
    ·replace hm:=JF hq17 hm;refine SA TK Q (SA TK Q (VE hm λe18 he18 hm=>SX Q Q (qGT Q Tryz.underlying9 Q Q he18) (SA TK Q (SA TK Q (SA TK Q (TN (WT ?_)))))));exact⟨_,[],(SJ hm),Q,k0,Q⟩
    replace hm:=JT hq17 hm;iterate 6 (refine SA TK Q ?_)
    refine TN (WT ?_);exact⟨_,[],(SJ hm),Q,k0,Q⟩
   refine WN [0,3,4,5] Q Q ?_;refine fM [(47,.d (.bool (((!(letter6))&&((!(digit11))||(decide (i3=(0:Int))))))))] [47] [0,3] Q ?_ ?_
   ·refine TG (SA TK Q (SA TK Q (SB TK Q (λq19 hq19=>?_))));cases q19
    ·iterate 7 (refine SA TK Q ?_)
     refine TN (WT ?_);exact⟨[],Q,k0,bE (aK (aL (by first|(simp [hq19];done)|(simp only [hq19];simp))) Q) Q⟩
    refine SA TK Q (SA TK Q (SB TK Q (λq20 hq20=>?_)));cases q20
    ·iterate 4 (refine SA TK Q ?_)
     refine TN (WT ?_);exact⟨[],Q,k0,bE (aK (aL (by first|(simp [hq19,hq20];done)|(simp only [hq19,hq20];simp))) Q) Q⟩
    iterate 4 (refine SA TK Q ?_)
    refine TN (WT ?_);exact⟨[],Q,k0,bE (aK (aL (by first|(simp [hq19,hq20];done)|(simp only [hq19,hq20];simp))) Q) Q⟩
   refine WN [0,3,47] Q Q ?_;refine TC _ Q (λh21=>?_) (λh21=>?_)
   ·replace hm:=JA h21 hm;refine RS (SA TK Q (TN (WN [2] Q Q (TR (WB (WR (IE hm λv22 hm hz=>?_)))))));rw [hz4 _ hz] at hm;refine WR (WB (IE hm λv23 hm hz=>?_));rw [hz1 _ hz] at hm;refine WR ?_;obtain rfl:=OJ hm;exact EndsS.one _ Q (.d _) (.refl _)
   replace hm:=JB h21 hm;refine TS (WK (WT (WN [0,3] Q Q (TG (SA TK Q (GE hm λg24 hm=>SX Q Q (aU Q Q Q Q g24) (SA TK Q ?_)))))));refine TN (WT ?_);exact⟨_,[],(SJ hm),Q,k0,Q⟩
  replace hm:=JF h5 hm;refine aE (WX (IE hm λv25 hm hz=>?_));rw [hz4 _ hz] at hm;refine WX (WH (WT ?_));exact⟨_,[],(SJ hm),Q,k0,Q⟩
 refine WN [0] Q Q ?_;refine fM [(2,.d (.bool (((decide ((1:Int)≤(p0.size:Int)))&&(decide ((p0.size:Int)≤(12:Int)))))))] [2] [] Q ?_ ?_
 ·refine TG (SA TK Q (SA TK Q (SA TK Q (SB TK Q (λq26 hq26=>?_)))));cases q26
  ·iterate 5 (refine SA TK Q ?_)
   refine TN (WT ?_);exact⟨[],Q,k0,bE (aK (aL (by first|(simp [hq26];done)|(simp only [hq26];simp))) Q) Q⟩
  iterate 5 (refine SA TK Q ?_)
  refine TN (WT ?_);exact⟨[],Q,k0,bE (aK (aL (by first|(simp [hq26];done)|(simp only [hq26];simp))) Q) Q⟩
 refine WN [2] Q Q (TR ?_);obtain rfl:=OJ hm;exact EndsS.one _ Q (.d _) (.refl _)
theorem qL {p0:(List ByteArray)} {r:Bool} (hm:nB p0=some r):RetN Tryz.prog 224 [.sl 1 (p0.map D.str)] (.bool (r)):=by
 refine .unit (aG qWQ Tryz.func224 Q Tryz.ntmps224 Q Q (λwX gX=>?_)) Q;unfold nB at hm;refine WN [0] Q Q (RS (SA TK Q (TN (WN [0] Q Q ?_))));refine bK hm (λ_=>([]:Fr)) (λ_=>([]:List (Nat×Blk))) [] [] Q (λz1 hm hz1=>?_) (λj hm=>?_)
 ·refine RS (SA TK Q (SX Q Q (aM TK Q Q Q) (SA TK Q (TN (WN [0,6,7] Q Q (TB (aO hm (λx3=>([(7,.d (.int .i64 x3))]:Fr)) (λx3=>([]:List (Nat×Blk))) [7] [0,6] [] Q k0 Q Q Q Q Q (λx3 z4 hm hz4=>WN [0,6,7] Q Q ?_))))))));refine RS (SA TK Q (TN (WN [0,6,7,8] Q Q (TQ ?_))));refine TC _ Q (λh5=>?_) (λh5=>?_)
  ·replace hm:=JT h5 hm;refine TS (WT (WN [0,6,7] Q Q ?_));refine bK hm (λ_=>([]:Fr)) (λ_=>([]:List (Nat×Blk))) [] [0,6,7] Q (λz6 hm hz6=>?_) (λj hm=>?_)
   ·refine TB (RS (SA TK Q (SA TK Q (TN (WN [0,3,6,7] Q Q (RS (SA TK Q (SA TK Q (TN (WN [0,3,6,7,10,11] Q Q ?_))))))))));refine TB (aO hm (λx8=>([(11,.d (.int .i64 x8))]:Fr)) (λx8=>([]:List (Nat×Blk))) [11] [0,3,6,7,10] [] Q k0 Q Q Q Q Q (λx8 z9 hm hz9=>WN [0,3,6,7,10,11] Q Q (RS (SA TK Q (TN (WN [0,3,6,7,10,11,12] Q Q (TQ ?_)))))));refine TC _ Q (λh10=>?_) (λh10=>?_)
    ·replace hm:=JT h10 hm;refine TS (WT (WN [0,3,6,7,10,11] Q Q (TQ (TB (RS (SA TK Q (SA TK Q (TN (WN [0,3,4,6,7,10,11] Q Q ?_)))))))));refine bM follows  ?_;iterate 2 (refine DA [] TK Q ?_)
     refine VE hm λe11 he11 hm=>DX [] Q Q (bF TK Q Q Q Q he11) ?_;iterate 3 (refine DA [] TK Q ?_)
     refine VE hm λe12 he12 hm=>DX [] Q Q (bF TK Q Q Q Q he12) ?_;iterate 2 (refine DA [] TK Q ?_)
     refine DT ?_ (by kernel_rfl);refine TN (WN [0,3,6,7,10,11,22] Q Q ?_);refine TC _ Q (λh13=>?_) (λh13=>?_)
     ·replace hm:=JT h13 hm;refine RS (SA TK Q (TN (WN [2] Q Q (TR (WB (WR (IE hm λv14 hm hz=>?_)))))));rw [hz9 _ hz] at hm;refine WR (WB (WB (IE hm λv15 hm hz=>?_)));rw [hz6 _ hz] at hm;refine WR (IE hm λv16 hm hz=>?_);rw [hz4 _ hz] at hm;refine WR (WB (IE hm λv17 hm hz=>?_));rw [hz1 _ hz] at hm;refine WR ?_;obtain rfl:=OJ hm;exact EndsS.one _ Q (.d _) (.refl _)
     replace hm:=JF h13 hm;refine TS (WK (WT (WN [0,3,6,7,10,11] Q Q (TG (GE hm λg18 hm=>SX Q Q (aU Q Q Q Q g18) (SA TK Q (TN ?_)))))));refine WT ?_;exact⟨_,[],(SJ hm),Q,k0,Q⟩
    replace hm:=JF h10 hm;refine aE (WX (IE hm λv19 hm hz=>?_));rw [hz9 _ hz] at hm;refine WX (WH (WK (WT ?_)));exact⟨_,[],(SJ hm),Q,k0,Q⟩
   refine WN [0,6,7] Q Q (TG (GE hm λg20 hm=>SX Q Q (aU Q Q Q Q g20) (SA TK Q (TN (WT ?_)))));exact⟨_,[],(SJ hm),Q,k0,Q⟩
  replace hm:=JF h5 hm;refine aE (WX (IE hm λv21 hm hz=>?_));rw [hz4 _ hz] at hm;refine WX (WH (WT ?_));exact⟨_,[],(SJ hm),Q,k0,Q⟩
 refine WN [] Q Q (RS (SA TK Q (TN (WN [2] Q Q (TR ?_)))));obtain rfl:=OJ hm;exact EndsS.one _ Q (.d _) (.refl _)
theorem qGC {p0:Layout} {r:Int} (hm:tY p0=some r):RetN Tryz.prog 186 [p0.enc] (.int .i64 r):=by
 refine .unit (aG qXY Tryz.func186 Q Tryz.ntmps186 Q Q (λwX gX=>?_)) Q;unfold tY at hm;refine WN [0] Q Q (RS (cM 0 Q Q Q (SA TK Q (TN (WN [1] Q Q (TQ ?_))))));refine fM [(39,.d (.bool (((decide ((p0.elements.length:Int) < (1:Int)))||((decide ((32:Int) < (p0.elements.length:Int)))||((decide ((p0.sections.length:Int) < (1:Int)))||((decide ((24:Int) < (p0.sections.length:Int)))||((decide ((20:Int) < (p0.signals.length:Int)))||(decide ((24:Int) < (p0.balises.length:Int)))))))))))] [39] [1] Q ?_ ?_
 ·refine TG (SA TK Q (SA TK Q (SX Q Q (aM TK Q Q Q) (SA TK Q (SB TK Q (λq1 hq1=>?_))))));cases q1
  ·refine SA TK Q (SA TK Q (SX Q Q (aM TK Q Q Q) (SA TK Q (SA TK Q (SB TK Q (λq2 hq2=>?_))))));cases q2
   ·refine SA TK Q (SA TK Q (SX Q Q (aM TK Q Q Q) (SA TK Q (SA TK Q (SB TK Q (λq3 hq3=>?_))))));cases q3
    ·refine SA TK Q (SA TK Q (SX Q Q (aM TK Q Q Q) (SA TK Q (SA TK Q (SB TK Q (λq4 hq4=>?_))))));cases q4
     ·refine SA TK Q (SA TK Q (SX Q Q (aM TK Q Q Q) (SA TK Q (SA TK Q (SB TK Q (λq5 hq5=>?_))))));cases q5
      ·refine SA TK Q (SA TK Q (SX Q Q (aM TK Q Q Q) (SA TK Q (SA TK Q (TN (WT ?_))))));exact⟨[0],Q,k0,bE (aK (aL (by first|(simp [hq1,hq2,hq3,hq4,hq5];done)|(simp only [hq1,hq2,hq3,hq4,hq5];simp))) Q) Q⟩
      iterate 5 (refine SA TK Q ?_)
      refine TN (WT ?_);exact⟨[0],Q,k0,bE (aK (aL (by first|(simp [hq1,hq2,hq3,hq4,hq5];done)|(simp only [hq1,hq2,hq3,hq4,hq5];simp))) Q) Q⟩
     iterate 11 (refine SA TK Q ?_)
     refine TN (WT ?_);exact⟨[0],Q,k0,bE (aK (aL (by first|(simp [hq1,hq2,hq3,hq4];done)|(simp only [hq1,hq2,hq3,hq4];simp))) Q) Q⟩
    iterate 17 (refine SA TK Q ?_)
    refine TN (WT ?_);exact⟨[0],Q,k0,bE (aK (aL (by first|(simp [hq1,hq2,hq3];done)|(simp only [hq1,hq2,hq3];simp))) Q) Q⟩
   iterate 23 (refine SA TK Q ?_)
   refine TN (WT ?_);exact⟨[0],Q,k0,bE (aK (aL (by first|(simp [hq1,hq2];done)|(simp only [hq1,hq2];simp))) Q) Q⟩
  iterate 29 (refine SA TK Q ?_)
  refine TN (WT ?_);exact⟨[0],Q,k0,bE (aK (aL (by first|(simp [hq1];done)|(simp only [hq1];simp))) Q) Q⟩
 refine WN [1,39] Q Q ?_;refine TC _ Q (λh6=>?_) (λh6=>?_)
 ·replace hm:=JA h6 hm;refine RS (SA TK Q (TN (WN [2] Q Q (TR (WR ?_)))));obtain rfl:=OJ hm;exact EndsS.one _ Q (.d _) (.refl _)
 replace hm:=JB h6 hm;refine TS (WT (WN [1] Q Q (RS (SA TK Q (BE hm λr7 hr7 hm=>SX Q Q (RD Q Q Q (qGB hr7)) (cF 1 Q Q qCH Q (cN 1 [some 1,some 1,some 1] Q Q ?_)))))));refine SA TK Q (TN (WN [1,3] Q Q ?_));refine bK hm (λ_=>([]:Fr)) (λ_=>([]:List (Nat×Blk))) [] [3] Q (λz8 hm hz8=>?_) (λj hm=>?_)
 ·refine fA (fA (fA (fA (bM follows  (DA [] TK Q (DA [0] TK Q (qX [2] _ (.msl 2 1 0 (([p0.name]:List ByteArray)).length) Q (gZ Q) Q (w_litD [.tmp 43] Q Q (TK.sel Q) kD Q Q Q Q Q) ?_)))))));refine DX [] Q Q (gQ Q kS Q Q (by decide) (by decide) Q) ?_;refine DA [1] TK Q (GE hm λg9 hm=>qX [2,3] _ (.msl 3 1 0 (([p0.name]:List ByteArray)++r7.a0).length) Q (gZ Q) Q (qG (f:=D.str) (xs:=([p0.name]:List ByteArray)) r7.a0 Q Q Q TK Q kD Q Q Q Q Q Q dD g9) ?_);refine DX [] Q Q (gQ Q kS Q Q (by decide) (by decide) Q) ?_;refine DA [1] TK Q (GE hm λg10 hm=>qX [3,4] _ (.msl 4 1 0 ((([p0.name]:List ByteArray)++r7.a0)++r7.a1).length) Q (gZ Q) Q (qG (f:=D.str) (xs:=(([p0.name]:List ByteArray)++r7.a0)) r7.a1 Q Q Q TK Q kD Q Q Q Q Q Q dD g10) ?_);refine DX [] Q Q (gQ Q kS Q Q (by decide) (by decide) Q) ?_;refine DA [1] TK Q (GE hm λg11 hm=>qX [4,5] _ (.msl 5 1 0 (((([p0.name]:List ByteArray)++r7.a0)++r7.a1)++r7.a2).length) Q (gZ Q) Q (qG (f:=D.str) (xs:=((([p0.name]:List ByteArray)++r7.a0)++r7.a1)) r7.a2 Q Q Q TK Q kD Q Q Q Q Q Q dD g11) ?_);iterate 2 (refine DA [] TK Q ?_)
  refine DT ?_ (by kernel_rfl);refine TN (WN [3,53,54,55] Q Q (TB (aO hm (λx13=>([(53,.msl 2 1 0 (((([p0.name]:List ByteArray)++r7.a0)++r7.a1)++r7.a2).length),(55,.d (.int .i64 x13))]:Fr)) (λx13=>([]:List (Nat×Blk))) [53,55] [3,54] [0,1,5] Q k0 Q Q Q Q Q (λx13 z14 hm hz14=>WN [3,53,54,55] Q Q (RS (SA TK Q (TN (WN [3,53,54,55,56] Q Q ?_))))))));refine TQ ?_;refine TC _ Q (λh15=>?_) (λh15=>?_)
  ·replace hm:=JT h15 hm;refine TS (WT (WN [3,53,54,55] Q Q (TQ (TB (RS (VE hm λe16 he16 hm=>SX Q Q (pT TK Q Q Q Q he16 Q) (SX Q Q (wG TK Q Q Q Q he16.2 Q) ?_)))))));refine SA TK Q (TN (WN [3,5,53,54,55] Q Q (RS (SA TK Q (BE hm λr17 hr17 hm=>SX Q Q (RN Q Q (SC (.d _) SN) (qIU hr17)) (SA TK Q (TN ?_)))))));refine WN [3,53,54,55,61] Q Q ?_;refine TC _ Q (λh18=>?_) (λh18=>?_)
   ·replace hm:=JA h18 hm;refine RS (SA TK Q (TN (WN [2] Q Q (TR (WB (WR (IE hm λv19 hm hz=>?_)))))));rw [hz14 _ hz] at hm;refine WR (WB (IE hm λv20 hm hz=>?_));rw [hz8 _ hz] at hm;refine WR ?_;obtain rfl:=OJ hm;exact EndsS.one _ Q (.d _) (.refl _)
   replace hm:=JB h18 hm;refine TS (WK (WT (WN [3,53,54,55] Q Q (TG (GE hm λg21 hm=>SX Q Q (aU Q Q Q Q g21) (SA TK Q (TN ?_)))))));refine WT ?_;exact⟨_,[0,1,2],(SJ hm),Q,k0,Q⟩
  replace hm:=JF h15 hm;refine aE (WX (IE hm λv22 hm hz=>?_));rw [hz14 _ hz] at hm;refine WX (WH (WT ?_));exact⟨_,[0,1],(SJ hm),Q,k0,Q⟩
 refine WN [3] Q Q (TQ ?_);refine aH hm (λx23=>([(75,.d (.bool (x23)))]:Fr)) (λx23=>([]:List (Nat×Blk))) [75] [] Q (λz24 hm=>?_) (λx23 hm=>?_)
 ·refine TG ?_;refine SX Q Q (gQ Q kS Q Q (by decide) (by decide) Q) ?_;refine SA TK Q (BE hm λr25 hr25 hm=>SX Q Q (RN Q Q (SC (.d _) SN) (qL hr25)) (SB TK Q (λq26 hq26=>?_)));cases q26
  ·replace hm:=JB hq26 hm;refine SX Q Q (gQ Q kS Q Q (by decide) (by decide) Q) ?_;refine SA TK Q (BE hm λr27 hr27 hm=>SX Q Q (RN Q Q (SC (.d _) SN) (qL hr27)) (SA TK Q (SB TK Q (λq28 hq28=>?_))));cases q28
   ·replace hm:=JB hq28 hm;refine SX Q Q (gQ Q kS Q Q (by decide) (by decide) Q) ?_;refine SA TK Q (BE hm λr29 hr29 hm=>SX Q Q (RN Q Q (SC (.d _) SN) (qL hr29)) (SA TK Q (TN (WT ?_))));exact⟨_,[0,1],(SJ hm),Q,k0,Q⟩
   replace hm:=JA hq28 hm;iterate 4 (refine SA TK Q ?_)
   refine TN (WT ?_);exact⟨_,[0,1],(SJ hm),Q,k0,Q⟩
  replace hm:=JA hq26 hm;iterate 9 (refine SA TK Q ?_)
  refine TN (WT ?_);exact⟨_,[0,1],(SJ hm),Q,k0,Q⟩
 refine WN [75] Q Q ?_;refine TC _ Q (λh30=>?_) (λh30=>?_)
 ·replace hm:=JA h30 hm;refine RS (SA TK Q (TN (WN [2] Q Q (TR (WR ?_)))));obtain rfl:=OJ hm;exact EndsS.one _ Q (.d _) (.refl _)
 replace hm:=JB h30 hm;refine TS (WT (WN [] Q Q (RS (SA TK Q (TN (WN [2] Q Q (TR ?_)))))));obtain rfl:=OJ hm;exact EndsS.one _ Q (.d _) (.refl _)
theorem qGA {p0:Layout} {p1:Element} {r:Bool} (hm:tW p0 p1=some r):RetN Tryz.prog 225 [p0.enc,p1.enc] (.bool (r)):=by
 refine .unit (aG qWP Tryz.func225 Q Tryz.ntmps225 Q Q (λwX gX=>?_)) Q;unfold tW at hm;refine WN [0,1] Q Q (RS (cM 0 Q Q Q (cM 1 Q Q Q (SA TK Q (TN (WN [2,3] Q Q (TQ ?_)))))));refine fM [(55,.d (.bool (((decide (p1.kind < (1:Int)))||((decide ((3:Int) < p1.kind))||((decide (p1.length < (500:Int)))||((decide ((1000000:Int) < p1.length))||((decide (p1.grade < (-50:Int)))||((decide ((50:Int) < p1.grade))||((decide (p1.speed < (100:Int)))||((decide ((10000:Int) < p1.speed))||((decide (p1.sectionV < (0:Int)))||(decide ((p0.sections.length:Int)≤p1.sectionV))))))))))))))] [55] [3] Q ?_ ?_
 ·refine TG (SA TK Q (SA TK Q (SA TK Q (SB TK Q (λq1 hq1=>?_)))));cases q1
  ·iterate 4 (refine SA TK Q ?_)
   refine SB TK Q (λq2 hq2=>?_);cases q2
   ·iterate 4 (refine SA TK Q ?_)
    refine SB TK Q (λq3 hq3=>?_);cases q3
    ·iterate 4 (refine SA TK Q ?_)
     refine SB TK Q (λq4 hq4=>?_);cases q4
     ·iterate 4 (refine SA TK Q ?_)
      refine SB TK Q (λq5 hq5=>?_);cases q5
      ·iterate 4 (refine SA TK Q ?_)
       refine SB TK Q (λq6 hq6=>?_);cases q6
       ·iterate 4 (refine SA TK Q ?_)
        refine SB TK Q (λq7 hq7=>?_);cases q7
        ·iterate 4 (refine SA TK Q ?_)
         refine SB TK Q (λq8 hq8=>?_);cases q8
         ·iterate 4 (refine SA TK Q ?_)
          refine SB TK Q (λq9 hq9=>?_);cases q9
          ·iterate 4 (refine SA TK Q ?_)
           refine SX Q Q (aM TK Q Q Q) (SA TK Q (SA TK Q (TN (WT ?_))));exact⟨[0,1],Q,k0,bE (aK (aL (by first|(simp [hq1,hq2,hq3,hq4,hq5,hq6,hq7,hq8,hq9];done)|(simp only [hq1,hq2,hq3,hq4,hq5,hq6,hq7,hq8,hq9];simp))) Q) Q⟩
          iterate 7 (refine SA TK Q ?_)
          refine TN (WT ?_);exact⟨[0,1],Q,k0,bE (aK (aL (by first|(simp [hq1,hq2,hq3,hq4,hq5,hq6,hq7,hq8,hq9];done)|(simp only [hq1,hq2,hq3,hq4,hq5,hq6,hq7,hq8,hq9];simp))) Q) Q⟩
         iterate 12 (refine SA TK Q ?_)
         refine TN (WT ?_);exact⟨[0,1],Q,k0,bE (aK (aL (by first|(simp [hq1,hq2,hq3,hq4,hq5,hq6,hq7,hq8];done)|(simp only [hq1,hq2,hq3,hq4,hq5,hq6,hq7,hq8];simp))) Q) Q⟩
        iterate 17 (refine SA TK Q ?_)
        refine TN (WT ?_);exact⟨[0,1],Q,k0,bE (aK (aL (by first|(simp [hq1,hq2,hq3,hq4,hq5,hq6,hq7];done)|(simp only [hq1,hq2,hq3,hq4,hq5,hq6,hq7];simp))) Q) Q⟩
       iterate 22 (refine SA TK Q ?_)
       refine TN (WT ?_);exact⟨[0,1],Q,k0,bE (aK (aL (by first|(simp [hq1,hq2,hq3,hq4,hq5,hq6];done)|(simp only [hq1,hq2,hq3,hq4,hq5,hq6];simp))) Q) Q⟩
      iterate 27 (refine SA TK Q ?_)
      refine TN (WT ?_);exact⟨[0,1],Q,k0,bE (aK (aL (by first|(simp [hq1,hq2,hq3,hq4,hq5];done)|(simp only [hq1,hq2,hq3,hq4,hq5];simp))) Q) Q⟩
     iterate 32 (refine SA TK Q ?_)
     refine TN (WT ?_);exact⟨[0,1],Q,k0,bE (aK (aL (by first|(simp [hq1,hq2,hq3,hq4];done)|(simp only [hq1,hq2,hq3,hq4];simp))) Q) Q⟩
    iterate 37 (refine SA TK Q ?_)
    refine TN (WT ?_);exact⟨[0,1],Q,k0,bE (aK (aL (by first|(simp [hq1,hq2,hq3];done)|(simp only [hq1,hq2,hq3];simp))) Q) Q⟩
   iterate 42 (refine SA TK Q ?_)
   refine TN (WT ?_);exact⟨[0,1],Q,k0,bE (aK (aL (by first|(simp [hq1,hq2];done)|(simp only [hq1,hq2];simp))) Q) Q⟩
  iterate 47 (refine SA TK Q ?_)
  refine TN (WT ?_);exact⟨[0,1],Q,k0,bE (aK (aL (by first|(simp [hq1];done)|(simp only [hq1];simp))) Q) Q⟩
 refine WN [3,55] Q Q ?_;refine TC _ Q (λh10=>?_) (λh10=>?_)
 ·replace hm:=JA h10 hm;refine RS (SA TK Q (TN (WN [4] Q Q (TR (WR ?_)))));obtain rfl:=OJ hm;exact EndsS.one _ Q (.d _) (.refl _)
 replace hm:=JB h10 hm;refine TS (WT (WN [3] Q Q (TQ (RS (SA TK Q (SA TK Q (SA TK Q (TN (WN [3,58] Q Q ?_)))))))));refine TC _ Q (λh11=>?_) (λh11=>?_)
 ·replace hm:=JT h11 hm;refine fM [(4,.d (.bool (((decide ((100:Int)≤p1.slow))&&(decide (p1.slow≤p1.speed))))))] [4] [] Q ?_ ?_
  ·refine TG (SA TK Q (SA TK Q (SA TK Q (SB TK Q (λq12 hq12=>?_)))));cases q12
   ·iterate 7 (refine SA TK Q ?_)
    refine TN (WT ?_);exact⟨[0,1],Q,k0,bE (aK (aL (by first|(simp [hq12];done)|(simp only [hq12];simp))) Q) Q⟩
   iterate 7 (refine SA TK Q ?_)
   refine TN (WT ?_);exact⟨[0,1],Q,k0,bE (aK (aL (by first|(simp [hq12];done)|(simp only [hq12];simp))) Q) Q⟩
  refine WN [4] Q Q (TR (WR ?_));obtain rfl:=OJ hm;exact EndsS.one _ Q (.d _) (.refl _)
 replace hm:=JF h11 hm;refine TS (WT (WN [3] Q Q (RS ?_)));iterate 4 (refine SA TK Q ?_)
 refine TN (WN [4] Q Q (TR ?_));obtain rfl:=OJ hm;exact EndsS.one _ Q (.d _) (.refl _)
theorem qBY {p0:Layout} {p1:Int} {r:(List Int)} (hm:qP p0 p1=some r):RetD Tryz.prog 226 [p0.enc,.int .i64 p1] (.sl 1 (r.map (D.int .i64))):=by
 refine .of (mv:=λ_=>false) (aG qWO Tryz.func226 Q Tryz.ntmps226 Q Q (λwX gX=>?_));unfold qP at hm;refine WN [0,1] Q Q (RS (cM 0 Q Q Q (SA TK Q (TN (WN [1,2] Q Q (RS (gB (f:=(D.int .i64)) 1 3 1 Q Q Q (TN ?_))))))));refine WN [1,2,5] Q Q ?_;refine aH hm (λb1=>([(5,.msl 1 1 0 b1.length)]:Fr)) (λb1=>([(1,.flat 3 1 (b1.map (D.int .i64)))]:List (Nat×Blk))) [5] [] Q (λz2 hm=>?_) (λb1 hm=>?_)
 ·refine RS (SA TK Q (SA TK Q (SX Q Q (aM TK Q Q Q) (SA TK Q (TN (WN [1,2,5,9,10,11] Q Q (TB (aO hm (λ(x6,b7)=>([(5,.msl 1 1 0 b7.length),(11,.d (.int .i64 x6))]:Fr)) (λ(x6,b7)=>([(1,.flat 3 1 (b7.map (D.int .i64)))]:List (Nat×Blk))) [5,11] [1,2,9,10] [0,1] Q k0 Q Q Q Q Q (λs z8 hm hz8=>?_)))))))));obtain⟨x6,b7⟩:=s;refine WN [1,2,5,9,10,11] Q Q (RS (SA TK Q (TN (WN [1,2,5,9,10,11,12] Q Q (TQ ?_)))));refine TC _ Q (λh9=>?_) (λh9=>?_)
  ·replace hm:=JT h9 hm;refine TS (WT (WN [1,2,5,9,10,11] Q Q (TQ (TB (RS (SA TK Q (VE hm λe10 he10 hm=>SX Q Q (bF TK Q Q Q Q he10) ?_)))))));refine SA TK Q (cF 2 Q Q rX Q (SA TK Q (SA TK Q (TN (WN [1,2,5,6,7,9,10,11] Q Q ?_)))));refine fM [(30,.d (.bool (((decide (e10.sectionV=p1))&&((decide ((0:Int)≤p1))&&(decide (p1 < (p0.sections.length:Int))))))))] [30] [1,2,5,6,9,10,11] Q ?_ ?_
   ·refine TG ?_;iterate 4 (refine SA TK Q ?_)
    refine SB TK Q (λq11 hq11=>?_);cases q11
    ·iterate 10 (refine SA TK Q ?_)
     refine TN (WT ?_);exact⟨[0,1,2],Q,k0,bE (aK (aL (by first|(simp [hq11];done)|(simp only [hq11];simp))) Q) Q⟩
    refine SA TK Q (SA TK Q (SA TK Q (SB TK Q (λq12 hq12=>?_))));cases q12
    ·iterate 6 (refine SA TK Q ?_)
     refine TN (WT ?_);exact⟨[0,1,2],Q,k0,bE (aK (aL (by first|(simp [hq11,hq12];done)|(simp only [hq11,hq12];simp))) Q) Q⟩
    refine SA TK Q (SA TK Q (SA TK Q (SX Q Q (aM TK Q Q Q) (SA TK Q (SA TK Q (TN (WT ?_)))))));exact⟨[0,1,2],Q,k0,bE (aK (aL (by first|(simp [hq11,hq12];done)|(simp only [hq11,hq12];simp))) Q) Q⟩
   refine WN [1,2,5,6,9,10,11,30] Q Q ?_;refine TC _ Q (λh13=>?_) (λh13=>?_)
   ·replace hm:=JA h13 hm;refine TG (SA TK Q (SA TK Q (SX Q Q (cX [.tmp 32] TK Q Q dY Q Q Q Q Q) (GE hm λg14 hm=>dM (f:=(D.int .i64)) ([x6]:List Int) TK Q Q dY Q Q Q Q Q (λh=>absurd h (zQV _)) Q dD g14 Q Q (SA TK Q (TN (WK (WT ?_))))))));refine WN [1,2,5,9,10,11] Q Q (TG (GE hm λg15 hm=>SX Q Q (aU Q Q Q Q g15) (SA TK Q (TN (WT ?_)))));exact⟨_,[0,1],(SJ hm),Q,k0,Q⟩
   replace hm:=JB h13 hm;refine TS (WK (WT (WN [1,2,5,9,10,11] Q Q (TG (GE hm λg16 hm=>SX Q Q (aU Q Q Q Q g16) (SA TK Q (TN ?_)))))));refine WT ?_;exact⟨_,[0,1],(SJ hm),Q,k0,Q⟩
  replace hm:=JF h9 hm;refine aE (WX (IE hm λv17 hm hz=>?_));rw [hz8 _ hz] at hm;refine WX (WH (WT ?_));exact⟨_,[0,1],(SJ hm),Q,k0,Q⟩
 refine WN [5] Q Q (RS (SA TK Q (SA TK Q (TN (WN [4] Q Q (TR ?_))))));obtain rfl:=OJ hm;exact EndsS.one _ Q (bO Q) (.refl _)
theorem wM {p0:Int} {r:Int} (hm:pZ p0=some r):RetN Tryz.prog 232 [.int .i64 p0] (.int .i64 r):=by
 refine .unit (aG qWI Tryz.func232 Q Tryz.ntmps232 Q Q (λwX gX=>?_)) Q;unfold pZ at hm;refine WN [0] Q Q (RS (SA TK Q (TN (WN [0] Q Q (TQ (RS (SA TK Q (TN ?_))))))));refine WN [3] Q Q (TB (RS (SA TK Q (SA TK Q (TN (WN [3,4] Q Q ?_))))));refine TC _ Q (λh1=>?_) (λh1=>?_)
 ·replace hm:=JT h1 hm;refine RS (SA TK Q (TN (WN [2] Q Q (TR (WB (WR ?_))))));obtain rfl:=OJ hm;exact EndsS.one _ Q (.d _) (.refl _)
 replace hm:=JF h1 hm;refine RS (SA TK Q (SA TK Q (TN (WN [3,6] Q Q ?_))));refine TC _ Q (λh2=>?_) (λh2=>?_)
 ·replace hm:=JT h2 hm;refine RS (SA TK Q (TN (WN [2] Q Q (TR (WB (WR ?_))))));obtain rfl:=OJ hm;exact EndsS.one _ Q (.d _) (.refl _)
 replace hm:=JF h2 hm;refine RS (SA TK Q (SA TK Q (TN (WN [8] Q Q ?_))));refine TC _ Q (λh3=>?_) (λh3=>?_)
 ·replace hm:=JT h3 hm;refine RS (SA TK Q (TN (WN [2] Q Q (TR (WB (WR ?_))))));obtain rfl:=OJ hm;exact EndsS.one _ Q (.d _) (.refl _)
 replace hm:=JF h3 hm;refine TS (WK (WT (WN [] Q Q (RS (SA TK Q (TN (WN [2] Q Q (TR ?_))))))));obtain rfl:=OJ hm;exact EndsS.one _ Q (.d _) (.refl _)
theorem pA {p0:Layout} {p1:End} {r:Bool} (hm:lR p0 p1=some r):RetN Tryz.prog 227 [p0.enc,p1.enc] (.bool (r)):=by
 refine .unit (aG qWN Tryz.func227 Q Tryz.ntmps227 Q Q (λwX gX=>?_)) Q;unfold lR at hm;refine WN [0,1] Q Q (RS (cM 0 Q Q Q (cM 1 Q Q Q (SA TK Q (TN (WN [2,3] Q Q ?_))))));refine aH hm (λx1=>([(4,.d (.bool (x1)))]:Fr)) (λx1=>([]:List (Nat×Blk))) [4] [] Q (λz2 hm=>?_) (λx1 hm=>?_)
 ·refine bW follows  ?_;iterate 3 (refine DA [0,1] TK Q ?_)
  refine d_b [0,1] TK Q (λq3 hq3=>?_);cases q3
  ·replace hm:=JF hq3 hm;iterate 25 (refine DA [0,1] TK Q ?_)
   refine DT ?_ (by kernel_rfl);refine SA TK Q (TN (WT ?_));exact⟨_,[0,1],(SJ hm),Q,k0,Q⟩
  replace hm:=JT hq3 hm;iterate 4 (refine DA [0,1] TK Q ?_)
  refine DX [0,1] Q Q (aM TK Q Q Q) ?_;iterate 2 (refine DA [0,1] TK Q ?_)
  refine d_b [0,1] TK Q (λq4 hq4=>?_);cases q4
  ·replace hm:=JF hq4 hm;iterate 17 (refine DA [0,1] TK Q ?_)
   refine DT ?_ (by kernel_rfl);refine SA TK Q (TN (WT ?_));exact⟨_,[0,1],(SJ hm),Q,k0,Q⟩
  replace hm:=JT hq4 hm;iterate 4 (refine DA [0,1] TK Q ?_)
  refine d_b [0,1] TK Q (λq5 hq5=>?_);cases q5
  ·replace hm:=JF hq5 hm;iterate 12 (refine DA [0,1] TK Q ?_)
   refine DT ?_ (by kernel_rfl);refine SA TK Q (TN (WT ?_));exact⟨_,[0,1],(SJ hm),Q,k0,Q⟩
  replace hm:=JT hq5 hm;iterate 6 (refine DA [0,1] TK Q ?_)
  refine VE hm λe6 he6 hm=>DX [0,1] Q Q (bF TK Q Q Q Q he6) ?_;iterate 2 (refine DA [0,1] TK Q ?_)
  refine BE hm λr7 hr7 hm=>DX [0,1] Q Q (RN Q Q (SC (.d _) SN) (wM hr7)) ?_;iterate 2 (refine DA [0,1] TK Q ?_)
  refine DT ?_ (by kernel_rfl);refine SA TK Q (TN (WT ?_));exact⟨_,[0,1],(SJ hm),Q,k0,Q⟩
 refine WN [4] Q Q (TR ?_);obtain rfl:=OJ hm;exact EndsS.one _ Q (.d _) (.refl _)
theorem yI {p0:(List End)} {r:Bool} (hm:sL p0=some r):RetN Tryz.prog 228 [.sl 2 (p0.map End.enc)] (.bool (r)):=by
 refine .unit (aG qWM Tryz.func228 Q Tryz.ntmps228 Q Q (λwX gX=>?_)) Q;unfold sL at hm;refine WN [0] Q Q (RS (SA TK Q (TN (WN [0] Q Q ?_))));refine bK hm (λ_=>([]:Fr)) (λ_=>([]:List (Nat×Blk))) [] [] Q (λz1 hm hz1=>?_) (λj hm=>?_)
 ·refine RS (SA TK Q (SX Q Q (aM TK Q Q Q) (SA TK Q (TN (WN [0,6,7] Q Q (TB (aO hm (λx3=>([(7,.d (.int .i64 x3))]:Fr)) (λx3=>([]:List (Nat×Blk))) [7] [0,6] [] Q k0 Q Q Q Q Q (λx3 z4 hm hz4=>WN [0,6,7] Q Q ?_))))))));refine RS (SA TK Q (TN (WN [0,6,7,8] Q Q (TQ ?_))));refine TC _ Q (λh5=>?_) (λh5=>?_)
  ·replace hm:=JT h5 hm;refine TS (WT (WN [0,6,7] Q Q ?_));refine bK hm (λ_=>([]:Fr)) (λ_=>([]:List (Nat×Blk))) [] [0,6,7] Q (λz6 hm hz6=>?_) (λj hm=>?_)
   ·refine TB (RS (SA TK Q (SA TK Q (TN (WN [0,3,6,7] Q Q (RS (SA TK Q (SA TK Q (TN (WN [0,3,6,7,10,11] Q Q ?_))))))))));refine TB (aO hm (λx8=>([(11,.d (.int .i64 x8))]:Fr)) (λx8=>([]:List (Nat×Blk))) [11] [0,3,6,7,10] [] Q k0 Q Q Q Q Q (λx8 z9 hm hz9=>WN [0,3,6,7,10,11] Q Q (RS (SA TK Q (TN (WN [0,3,6,7,10,11,12] Q Q (TQ ?_)))))));refine TC _ Q (λh10=>?_) (λh10=>?_)
    ·replace hm:=JT h10 hm;refine TS (WT (WN [0,3,6,7,10,11] Q Q (TQ (TB (RS (SA TK Q (SA TK Q (TN (WN [0,3,4,6,7,10,11] Q Q ?_)))))))));refine bM follows  ?_;iterate 2 (refine DA [] TK Q ?_)
     refine VE hm λe11 he11 hm=>DX [] Q Q (bF TK Q Q Q Q he11) ?_;iterate 3 (refine DA [] TK Q ?_)
     refine VE hm λe12 he12 hm=>DX [] Q Q (bF TK Q Q Q Q he12) (DA [] TK Q (GE hm λg13 hm=>DX [] Q Q (qFL Q Q Q g13.1 g13.2) ?_));refine DT ?_ (by kernel_rfl);refine TN (WN [0,3,6,7,10,11,22] Q Q ?_);refine TC _ Q (λh15=>?_) (λh15=>?_)
     ·replace hm:=JT h15 hm;refine RS (SA TK Q (TN (WN [2] Q Q (TR (WB (WR (IE hm λv16 hm hz=>?_)))))));rw [hz9 _ hz] at hm;refine WR (WB (WB (IE hm λv17 hm hz=>?_)));rw [hz6 _ hz] at hm;refine WR (IE hm λv18 hm hz=>?_);rw [hz4 _ hz] at hm;refine WR (WB (IE hm λv19 hm hz=>?_));rw [hz1 _ hz] at hm;refine WR ?_;obtain rfl:=OJ hm;exact EndsS.one _ Q (.d _) (.refl _)
     replace hm:=JF h15 hm;refine TS (WK (WT (WN [0,3,6,7,10,11] Q Q (TG (GE hm λg20 hm=>SX Q Q (aU Q Q Q Q g20) (SA TK Q (TN ?_)))))));refine WT ?_;exact⟨_,[],(SJ hm),Q,k0,Q⟩
    replace hm:=JF h10 hm;refine aE (WX (IE hm λv21 hm hz=>?_));rw [hz9 _ hz] at hm;refine WX (WH (WK (WT ?_)));exact⟨_,[],(SJ hm),Q,k0,Q⟩
   refine WN [0,6,7] Q Q (TG (GE hm λg22 hm=>SX Q Q (aU Q Q Q Q g22) (SA TK Q (TN (WT ?_)))));exact⟨_,[],(SJ hm),Q,k0,Q⟩
  replace hm:=JF h5 hm;refine aE (WX (IE hm λv23 hm hz=>?_));rw [hz4 _ hz] at hm;refine WX (WH (WT ?_));exact⟨_,[],(SJ hm),Q,k0,Q⟩
 refine WN [] Q Q (RS (SA TK Q (TN (WN [2] Q Q (TR ?_)))));obtain rfl:=OJ hm;exact EndsS.one _ Q (.d _) (.refl _)
theorem qAC {p0:Layout} {r:Int} (hm:pB p0=some r):RetN Tryz.prog 187 [p0.enc] (.int .i64 r):=by
 refine .unit (aG qXX Tryz.func187 Q Tryz.ntmps187 Q Q (λwX gX=>?_)) Q;unfold pB at hm;refine WN [0] Q Q (RS (cM 0 Q Q Q (SA TK Q (TN (WN [1] Q Q ?_)))));refine bK hm (λ_=>([]:Fr)) (λ_=>([]:List (Nat×Blk))) [] [1] Q (λz1 hm hz1=>?_) (λj hm=>?_)
 ·refine RS (SA TK Q (SA TK Q (SX Q Q (aM TK Q Q Q) (SA TK Q (TN (WN [1,10,11,12] Q Q (TB (aO hm (λx3=>([(12,.d (.int .i64 x3))]:Fr)) (λx3=>([]:List (Nat×Blk))) [12] [1,10,11] [0] Q k0 Q Q Q Q Q (λx3 z4 hm hz4=>WN [1,10,11,12] Q Q ?_)))))))));refine RS (SA TK Q (TN (WN [1,10,11,12,13] Q Q (TQ ?_))));refine TC _ Q (λh5=>?_) (λh5=>?_)
  ·replace hm:=JT h5 hm;refine TS (WT (WN [1,10,11,12] Q Q (TQ (TB (RS (VE hm λe6 he6 hm=>SX Q Q (bF TK Q Q Q Q he6) (SA TK Q ?_)))))));refine cF 1 Q Q rX Q (SA TK Q (TN (WN [1,4,10,11,12] Q Q (RS (SA TK Q (SA TK Q (BE hm λr7 hr7 hm=>SX Q Q (RN Q Q (SC (.d _) (SC (.d _) SN)) (qGA hr7)) (SA TK Q ?_))))))));refine TN (WN [1,10,11,12,19] Q Q ?_);refine TC _ Q (λh8=>?_) (λh8=>?_)
   ·replace hm:=JA h8 hm;refine RS (SA TK Q (TN (WN [2] Q Q (TR (WB (WR (IE hm λv9 hm hz=>?_)))))));rw [hz4 _ hz] at hm;refine WR (WB (IE hm λv10 hm hz=>?_));rw [hz1 _ hz] at hm;refine WR ?_;obtain rfl:=OJ hm;exact EndsS.one _ Q (.d _) (.refl _)
   replace hm:=JB h8 hm;refine TS (WK (WT (WN [1,10,11,12] Q Q (TG (GE hm λg11 hm=>SX Q Q (aU Q Q Q Q g11) (SA TK Q (TN ?_)))))));refine WT ?_;exact⟨_,[0],(SJ hm),Q,k0,Q⟩
  replace hm:=JF h5 hm;refine aE (WX (IE hm λv12 hm hz=>?_));rw [hz4 _ hz] at hm;refine WX (WH (WT ?_));exact⟨_,[0],(SJ hm),Q,k0,Q⟩
 refine WN [1] Q Q ?_;refine bK hm (λ_=>([]:Fr)) (λ_=>([]:List (Nat×Blk))) [] [1] Q (λz13 hm hz13=>?_) (λj hm=>?_)
 ·refine RS (SA TK Q (SA TK Q (SX Q Q (aM TK Q Q Q) (SA TK Q (TN (WN [1,23,24] Q Q (TB (aO hm (λx15=>([(24,.d (.int .i64 x15))]:Fr)) (λx15=>([]:List (Nat×Blk))) [24] [1,23] [0] Q k0 Q Q Q Q Q (λx15 z16 hm hz16=>WN [1,23,24] Q Q ?_)))))))));refine RS (SA TK Q (TN (WN [1,23,24,25] Q Q (TQ ?_))));refine TC _ Q (λh17=>?_) (λh17=>?_)
  ·replace hm:=JT h17 hm;refine TS (WT (WN [1,23,24] Q Q (TQ (TB (RS (SA TK Q (SA TK Q (TN (WN [1,5,23,24] Q Q ?_)))))))));refine RS (SA TK Q (SA TK Q (BE hm λr18 hr18 hm=>SX Q Q (RD Q Q Q (qBY hr18)) (SX Q Q (aM TK Q Q Q) (SA TK Q (TN (WN [1,23,24,31] Q Q ?_)))))));refine TC _ Q (λh19=>?_) (λh19=>?_)
   ·replace hm:=JT h19 hm;refine RS (SA TK Q (TN (WN [2] Q Q (TR (WB (WR (IE hm λv20 hm hz=>?_)))))));rw [hz16 _ hz] at hm;refine WR (WB (IE hm λv21 hm hz=>?_));rw [hz13 _ hz] at hm;refine WR ?_;obtain rfl:=OJ hm;exact EndsS.one _ Q (.d _) (.refl _)
   replace hm:=JF h19 hm;refine TS (WK (WT (WN [1,23,24] Q Q (TG (GE hm λg22 hm=>SX Q Q (aU Q Q Q Q g22) (SA TK Q (TN ?_)))))));refine WT ?_;exact⟨_,[0],(SJ hm),Q,k0,Q⟩
  replace hm:=JF h17 hm;refine aE (WX (IE hm λv23 hm hz=>?_));rw [hz16 _ hz] at hm;refine WX (WH (WT ?_));exact⟨_,[0],(SJ hm),Q,k0,Q⟩
 refine WN [1] Q Q (RS (gB (f:=End.enc) 1 125 2 Q Q Q (TN (WN [1,6] Q Q ?_))));refine bK hm (λb24=>([(6,.msl 1 2 0 b24.length)]:Fr)) (λb24=>([(1,.flat 125 2 (b24.map End.enc))]:List (Nat×Blk))) [6] [] Q (λz25 hm hz25=>?_) (λb24 hm=>?_)
 ·refine RS (SA TK Q (SA TK Q (SX Q Q (aM TK Q Q Q) (SA TK Q (TN (WN [1,6,34,35,36] Q Q (TB (aO hm (λ(x29,b30)=>([(6,.msl 1 2 0 b30.length),(36,.d (.int .i64 x29))]:Fr)) (λ(x29,b30)=>([(1,.flat 125 2 (b30.map End.enc))]:List (Nat×Blk))) [6,36] [1,34,35] [0,1] Q k0 Q Q Q Q Q (λs z31 hm hz31=>?_)))))))));obtain⟨x29,b30⟩:=s;refine WN [1,6,34,35,36] Q Q (RS (SA TK Q (TN (WN [1,6,34,35,36,37] Q Q (TQ ?_)))));refine TC _ Q (λh32=>?_) (λh32=>?_)
  ·replace hm:=JT h32 hm;refine TS (WT (WN [1,6,34,35,36] Q Q (TQ (TB (RS (VE hm λe33 he33 hm=>SX Q Q (bF TK Q Q Q Q he33) (SA TK Q ?_)))))));refine cF 2 Q Q xZ Q (SA TK Q (TN (WN [1,6,8,34,35,36] Q Q (TQ ?_))));refine aH hm (λx34=>([(58,.d (.bool (x34)))]:Fr)) (λx34=>([]:List (Nat×Blk))) [58] [1,6,8,34,35,36] Q (λz35 hm=>?_) (λx34 hm=>?_)
   ·refine TG (SA TK Q (SA TK Q (SA TK Q (BE hm λr36 hr36 hm=>SX Q Q (RN Q Q (SC (.d _) (SC (.d _) SN)) (pA hr36)) (SA TK Q (SB TK Q (λq37 hq37=>?_)))))));cases q37
    ·replace hm:=JB hq37 hm;refine SA TK Q (SA TK Q (SA TK Q (BE hm λr38 hr38 hm=>SX Q Q (RN Q Q (SC (.d _) (SC (.d _) SN)) (pA hr38)) (SA TK Q (SA TK Q (SB TK Q (λq39 hq39=>?_)))))));cases q39
     ·replace hm:=JB hq39 hm;iterate 4 (refine SA TK Q ?_)
      refine GE hm λg40 hm=>SX Q Q (qFL Q Q Q g40.1 g40.2) (SA TK Q (TN (WT ?_)));exact⟨_,[0,1,2],(SJ hm),Q,k0,Q⟩
     replace hm:=JA hq39 hm;iterate 6 (refine SA TK Q ?_)
     refine TN (WT ?_);exact⟨_,[0,1,2],(SJ hm),Q,k0,Q⟩
    replace hm:=JA hq37 hm;iterate 13 (refine SA TK Q ?_)
    refine TN (WT ?_);exact⟨_,[0,1,2],(SJ hm),Q,k0,Q⟩
   refine WN [1,6,8,34,35,36,58] Q Q ?_;refine TC _ Q (λh42=>?_) (λh42=>?_)
   ·replace hm:=JA h42 hm;refine RS (SA TK Q (TN (WN [2] Q Q (TR (WR (WB (WR (IE hm λv43 hm hz=>?_))))))));rw [hz31 _ hz] at hm;refine WR (WB (IE hm λv44 hm hz=>?_));rw [hz25 _ hz] at hm;refine WR ?_;obtain rfl:=OJ hm;exact EndsS.one _ Q (.d _) (.refl _)
   replace hm:=JB h42 hm;refine TS (WT (WN [1,6,8,34,35,36] Q Q (TG ?_)));iterate 5 (refine SA TK Q ?_)
   refine SX Q Q (cX [.tmp 61,.tmp 63] TK Q Q dV Q Q Q Q Q) (GE hm λg45 hm=>dM (f:=End.enc) ([e33.a,e33.b]:List End) TK Q Q dV Q Q Q Q Q (λh=>absurd h (zQV _)) Q dD g45 Q Q (SA TK Q (TN (WK (WT (WN [1,6,34,35,36] Q Q (TG ?_)))))));refine GE hm λg46 hm=>SX Q Q (aU Q Q Q Q g46) (SA TK Q (TN (WT ?_)));exact⟨_,[0,1],(SJ hm),Q,k0,Q⟩
  replace hm:=JF h32 hm;refine aE (WX (IE hm λv47 hm hz=>?_));rw [hz31 _ hz] at hm;refine WX (WH (WT ?_));exact⟨_,[0,1],(SJ hm),Q,k0,Q⟩
 refine WN [6] Q Q (TQ (RS (SA TK Q (BE hm λr48 hr48 hm=>SX Q Q (RN Q Q (SC (bO Q) SN) (yI hr48)) (TN (WN [68] Q Q ?_))))));refine TC _ Q (λh49=>?_) (λh49=>?_)
 ·replace hm:=JA h49 hm;refine RS (SA TK Q (TN (WN [2] Q Q (TR (WR ?_)))));obtain rfl:=OJ hm;exact EndsS.one _ Q (.d _) (.refl _)
 replace hm:=JB h49 hm;refine TS (WT (WN [] Q Q (RS (SA TK Q (TN (WN [2] Q Q (TR ?_)))))));obtain rfl:=OJ hm;exact EndsS.one _ Q (.d _) (.refl _)
theorem qDT {p0:Layout} {p1:End} {r0:End} {r1:Bool} (hm:iJ p0 p1=some (r0,r1)):Ret Tryz.prog 132 [] (λ_=>false) ([p0.enc,p1.enc].map .d) (.tup ([r0.enc,.bool (r1)].map .d)) []:=by
 refine gN qZI Tryz.func132 Q Tryz.ntmps132 Q Q (λwX gX=>?_);unfold iJ at hm;refine WN [0,1] Q Q (RS (cM 0 Q Q Q (cM 1 Q Q Q (cF 2 Q Q dV Q (SA TK Q (TN (WN [2,3,4] Q Q ?_)))))));refine bK hm (λ_=>([]:Fr)) (λ_=>([]:List (Nat×Blk))) [] [4] Q (λz1 hm hz1=>?_) (λj hm=>?_)
 ·refine RS (SA TK Q (SA TK Q (SX Q Q (aM TK Q Q Q) (SA TK Q (TN (WN [3,4,9,10,11] Q Q (TB (aO hm (λx3=>([(11,.d (.int .i64 x3))]:Fr)) (λx3=>([]:List (Nat×Blk))) [11] [3,4,9,10] [0,1,2] Q k0 Q Q Q Q Q (λx3 z4 hm hz4=>WN [3,4,9,10,11] Q Q ?_)))))))));refine RS (SA TK Q (TN (WN [3,4,9,10,11,12] Q Q (TQ ?_))));refine TC _ Q (λh5=>?_) (λh5=>?_)
  ·replace hm:=JT h5 hm;refine TS (WT (WN [3,4,9,10,11] Q Q (TQ (TB (RS (VE hm λe6 he6 hm=>SX Q Q (bF TK Q Q Q Q he6) (SA TK Q ?_)))))));refine cF 3 Q Q xZ Q (SA TK Q (TN (WN [3,4,7,9,10,11] Q Q (TQ (RS (SA TK Q (SA TK Q (SA TK Q (GE hm λg7 hm=>SX Q Q (qFL Q Q Q g7.1 g7.2) ?_)))))))));refine TN (WN [3,4,7,9,10,11,18] Q Q ?_);refine TC _ Q (λh9=>?_) (λh9=>?_)
   ·replace hm:=JT h9 hm;refine RS ?_;iterate 4 (refine SA TK Q ?_)
    refine TN (WN [4,5] Q Q (TR (WR (WB (WR (IE hm λv10 hm hz=>?_))))));rw [hz4 _ hz] at hm;refine WR (WB (IE hm λv11 hm hz=>?_));rw [hz1 _ hz] at hm;refine WR ?_;obtain⟨rfl,rfl⟩:=Prod.mk.inj (Option.some.inj hm);exact⟨_,.mk _ (.cons (.agg (TK.lay Q) Q Q Q Q) (.cons (.tmp 5) .nil)) Q,(.cons (.d _) (.refl _) (.cons (.d _) (.refl _) .nil))⟩
   replace hm:=JF h9 hm;refine TS (WT (WN [3,4,7,9,10,11] Q Q (RS (SA TK Q (SA TK Q (SA TK Q (GE hm λg12 hm=>SX Q Q (qFL Q Q Q g12.1 g12.2) (TN (WN [3,4,7,9,10,11,24] Q Q ?_)))))))));refine TC _ Q (λh14=>?_) (λh14=>?_)
   ·replace hm:=JT h14 hm;refine RS ?_;iterate 4 (refine SA TK Q ?_)
    refine TN (WN [4,5] Q Q (TR (WB (WR (IE hm λv15 hm hz=>?_)))));rw [hz4 _ hz] at hm;refine WR (WB (IE hm λv16 hm hz=>?_));rw [hz1 _ hz] at hm;refine WR ?_;obtain⟨rfl,rfl⟩:=Prod.mk.inj (Option.some.inj hm);exact⟨_,.mk _ (.cons (.agg (TK.lay Q) Q Q Q Q) (.cons (.tmp 5) .nil)) Q,(.cons (.d _) (.refl _) (.cons (.d _) (.refl _) .nil))⟩
   replace hm:=JF h14 hm;refine TS (WK (WT (WN [3,4,9,10,11] Q Q (TG (GE hm λg17 hm=>SX Q Q (aU Q Q Q Q g17) (SA TK Q (TN ?_)))))));refine WT ?_;exact⟨_,[0,1,2],(SJ hm),Q,k0,Q⟩
  replace hm:=JF h5 hm;refine aE (WX (IE hm λv18 hm hz=>?_));rw [hz4 _ hz] at hm;refine WX (WH (WT ?_));exact⟨_,[0,1,2],(SJ hm),Q,k0,Q⟩
 refine WN [4] Q Q (RS (SX Q Q (bR Q pD dV Q Q Q Q) (SA TK Q (SA TK Q (TN (WN [4,5] Q Q (TR ?_)))))));obtain⟨rfl,rfl⟩:=Prod.mk.inj (Option.some.inj hm);exact⟨_,.mk _ (.cons (.agg (TK.lay Q) Q Q Q Q) (.cons (.tmp 5) .nil)) Q,(.cons (.d _) (.refl _) (.cons (.d _) (.refl _) .nil))⟩
theorem jV {p0:Layout} {p1:End} {r0:End} {r1:Bool} (hm:iJ p0 p1=some (r0,r1)):RetT Tryz.prog 132 [p0.enc,p1.enc] [r0.enc,.bool (r1)]:=.of (mv:=λ_=>false) (qDT hm)
theorem qBV {p0:Layout} {r:Int} (hm:qM p0=some r):RetN Tryz.prog 188 [p0.enc] (.int .i64 r):=by
 refine .unit (aG qXW Tryz.func188 Q Tryz.ntmps188 Q Q (λwX gX=>?_)) Q;unfold qM at hm;refine WN [0] Q Q (RS (cM 0 Q Q Q (SA TK Q (TN (WN [1] Q Q (RS (gB (f:=End.enc) 1 125 2 Q Q Q (TN ?_))))))));refine WN [1,3] Q Q ?_;refine bK hm (λb1=>([(3,.msl 1 2 0 b1.length)]:Fr)) (λb1=>([(1,.flat 125 2 (b1.map End.enc))]:List (Nat×Blk))) [3] [1] Q (λz2 hm hz2=>?_) (λb1 hm=>?_)
 ·refine RS (SA TK Q (SA TK Q (SX Q Q (aM TK Q Q Q) (SA TK Q (TN (WN [1,3,11,12,13] Q Q (TB (aO hm (λ(x6,b7)=>([(3,.msl 1 2 0 b7.length),(13,.d (.int .i64 x6))]:Fr)) (λ(x6,b7)=>([(1,.flat 125 2 (b7.map End.enc))]:List (Nat×Blk))) [3,13] [1,11,12] [0,1] Q k0 Q Q Q Q Q (λs z8 hm hz8=>?_)))))))));obtain⟨x6,b7⟩:=s;refine WN [1,3,11,12,13] Q Q (RS (SA TK Q (TN (WN [1,3,11,12,13,14] Q Q (TQ ?_)))));refine TC _ Q (λh9=>?_) (λh9=>?_)
  ·replace hm:=JT h9 hm;refine TS (WT (WN [1,3,11,12,13] Q Q (TQ (TB (RS (VE hm λe10 he10 hm=>SX Q Q (bF TK Q Q Q Q he10) (SA TK Q ?_)))))));refine cF 2 Q Q nS Q (SA TK Q (TN (WN [1,3,5,11,12,13] Q Q (TQ ?_))));refine aH hm (λx11=>([(31,.d (.bool (x11)))]:Fr)) (λx11=>([]:List (Nat×Blk))) [31] [1,3,5,11,12,13] Q (λz12 hm=>?_) (λx11 hm=>?_)
   ·refine TG (SA TK Q (SA TK Q (SA TK Q (BE hm λr13 hr13 hm=>SX Q Q (RN Q Q (SC (.d _) (SC (.d _) SN)) (pA hr13)) (SA TK Q (SB TK Q (λq14 hq14=>?_)))))));cases q14
    ·replace hm:=JB hq14 hm;iterate 4 (refine SA TK Q ?_)
     refine SB TK Q (λq15 hq15=>?_);cases q15
     ·replace hm:=JF hq15 hm;iterate 4 (refine SA TK Q ?_)
      refine TN (WT ?_);exact⟨_,[0,1,2],(SJ hm),Q,k0,Q⟩
     replace hm:=JT hq15 hm;iterate 4 (refine SA TK Q ?_)
     refine TN (WT ?_);exact⟨_,[0,1,2],(SJ hm),Q,k0,Q⟩
    replace hm:=JA hq14 hm;iterate 9 (refine SA TK Q ?_)
    refine TN (WT ?_);exact⟨_,[0,1,2],(SJ hm),Q,k0,Q⟩
   refine WN [1,3,5,11,12,13,31] Q Q ?_;refine TC _ Q (λh16=>?_) (λh16=>?_)
   ·replace hm:=JA h16 hm;refine RS (SA TK Q (TN (WN [2] Q Q (TR (WR (WB (WR (IE hm λv17 hm hz=>?_))))))));rw [hz8 _ hz] at hm;refine WR (WB (IE hm λv18 hm hz=>?_));rw [hz2 _ hz] at hm;refine WR ?_;obtain rfl:=OJ hm;exact EndsS.one _ Q (.d _) (.refl _)
   replace hm:=JB h16 hm;refine TS (WT (WN [1,3,5,11,12,13] Q Q (TG (SA TK Q (SA TK Q (SA TK Q (SX Q Q (cX [.tmp 34] TK Q Q dV Q Q Q Q Q) (GE hm λg19 hm=>dM (f:=End.enc) ([e10.atV]:List End) TK Q Q dV Q Q Q Q Q (λh=>absurd h (zQV _)) Q dD g19 Q Q (SA TK Q ?_)))))))));refine TN (WK (WT (WN [1,3,11,12,13] Q Q (TG (GE hm λg20 hm=>SX Q Q (aU Q Q Q Q g20) (SA TK Q (TN ?_)))))));refine WT ?_;exact⟨_,[0,1],(SJ hm),Q,k0,Q⟩
  replace hm:=JF h9 hm;refine aE (WX (IE hm λv21 hm hz=>?_));rw [hz8 _ hz] at hm;refine WX (WH (WT ?_));exact⟨_,[0,1],(SJ hm),Q,k0,Q⟩
 refine WN [1,3] Q Q (TQ (RS (SA TK Q (BE hm λr22 hr22 hm=>SX Q Q (RN Q Q (SC (bO Q) SN) (yI hr22)) (TN (WN [1,3,39] Q Q ?_))))));refine TC _ Q (λh23=>?_) (λh23=>?_)
 ·replace hm:=JA h23 hm;refine RS (SA TK Q (TN (WN [2] Q Q (TR (WR ?_)))));obtain rfl:=OJ hm;exact EndsS.one _ Q (.d _) (.refl _)
 replace hm:=JB h23 hm;refine TS (WT (WN [1,3] Q Q ?_));refine bK hm (λ_=>([]:Fr)) (λ_=>([]:List (Nat×Blk))) [] [] Q (λz24 hm hz24=>?_) (λj hm=>?_)
 ·refine RS (SA TK Q (SA TK Q (SA TK Q (TN (WN [1,40,41,42] Q Q (TB (aO hm (λx26=>([(42,.d (.int .i64 x26))]:Fr)) (λx26=>([]:List (Nat×Blk))) [42] [1,40,41] [0,1] Q k0 Q Q Q Q Q (λx26 z27 hm hz27=>WN [1,40,41,42] Q Q (RS (SA TK Q ?_))))))))));refine TN (WN [1,40,41,42,43] Q Q (TQ ?_));refine TC _ Q (λh28=>?_) (λh28=>?_)
  ·replace hm:=JT h28 hm;refine TS (WT (WN [1,40,41,42] Q Q (TQ (TB (RS (VE hm λe29 he29 hm=>SX Q Q (pT TK Q Q Q Q he29 Q) (SX Q Q (wG TK Q Q Q Q he29.2 Q) ?_)))))));refine cF 2 Q Q dV Q (SA TK Q (TN (WN [1,7,40,41,42] Q Q (RS (SA TK Q (SA TK Q (BE hm λr30 hr30 hm=>?_)))))));obtain⟨r31,r32⟩:=r30;refine SX Q Q (eS Q Q Q (jV hr30)) (SA TK Q (SA TK Q (SA TK Q (cF 3 Q Q dV Q (SA TK Q (SA TK Q (TN (WN [1,7,8,9,40,41,42] Q Q ?_))))))));refine aH hm (λx33=>([(70,.d (.bool (x33)))]:Fr)) (λx33=>([]:List (Nat×Blk))) [70] [1,40,41,42] Q (λz34 hm=>?_) (λx33 hm=>?_)
   ·refine bW follows  ?_;iterate 2 (refine DA [0,1,2,3] TK Q ?_)
    refine d_b [0,1,2,3] TK Q (λq35 hq35=>?_);cases q35
    ·replace hm:=JB hq35 hm;iterate 4 (refine DA [0,1,2,3] TK Q ?_)
     refine VE hm λe36 he36 hm=>DX [0,1,2,3] Q Q (bF TK Q Q Q Q he36) ?_;iterate 6 (refine DA [0,1,2,3] TK Q ?_)
     refine VE hm λe37 he37 hm=>DX [0,1,2,3] Q Q (bF TK Q Q Q Q he37) ?_;iterate 4 (refine DA [0,1,2,3] TK Q ?_)
     refine DT ?_ (by kernel_rfl);refine TN (WT ?_);exact⟨_,[0,1,2,3],(SJ hm),Q,k0,Q⟩
    replace hm:=JA hq35 hm;iterate 16 (refine DA [0,1,2,3] TK Q ?_)
    refine DT ?_ (by kernel_rfl);refine TN (WT ?_);exact⟨_,[0,1,2,3],(SJ hm),Q,k0,Q⟩
   refine WN [1,40,41,42,70] Q Q ?_;refine TC _ Q (λh38=>?_) (λh38=>?_)
   ·replace hm:=JA h38 hm;refine RS (SA TK Q (TN (WN [2] Q Q (TR (WB (WR (IE hm λv39 hm hz=>?_)))))));rw [hz27 _ hz] at hm;refine WR (WB (IE hm λv40 hm hz=>?_));rw [hz24 _ hz] at hm;refine WR ?_;obtain rfl:=OJ hm;exact EndsS.one _ Q (.d _) (.refl _)
   replace hm:=JB h38 hm;refine TS (WK (WT (WN [1,40,41,42] Q Q (TG (GE hm λg41 hm=>SX Q Q (aU Q Q Q Q g41) (SA TK Q (TN ?_)))))));refine WT ?_;exact⟨_,[0,1],(SJ hm),Q,k0,Q⟩
  replace hm:=JF h28 hm;refine aE (WX (IE hm λv42 hm hz=>?_));rw [hz27 _ hz] at hm;refine WX (WH (WT ?_));exact⟨_,[0,1],(SJ hm),Q,k0,Q⟩
 refine WN [] Q Q (RS (SA TK Q (TN (WN [2] Q Q (TR ?_)))));obtain rfl:=OJ hm;exact EndsS.one _ Q (.d _) (.refl _)
theorem qBW {p0:(List Int)} {r:Bool} (hm:qN p0=some r):RetN Tryz.prog 229 [.sl 1 (p0.map (D.int .i64))] (.bool (r)):=by
 refine .unit (aG qWL Tryz.func229 Q Tryz.ntmps229 Q Q (λwX gX=>?_)) Q;unfold qN at hm;refine WN [0] Q Q (RS (SA TK Q (TN (WN [0] Q Q ?_))));refine bK hm (λ_=>([]:Fr)) (λ_=>([]:List (Nat×Blk))) [] [] Q (λz1 hm hz1=>?_) (λj hm=>?_)
 ·refine RS (SA TK Q (SX Q Q (aM TK Q Q Q) (SA TK Q (TN (WN [0,6,7] Q Q (TB (aO hm (λx3=>([(7,.d (.int .i64 x3))]:Fr)) (λx3=>([]:List (Nat×Blk))) [7] [0,6] [] Q k0 Q Q Q Q Q (λx3 z4 hm hz4=>WN [0,6,7] Q Q ?_))))))));refine RS (SA TK Q (TN (WN [0,6,7,8] Q Q (TQ ?_))));refine TC _ Q (λh5=>?_) (λh5=>?_)
  ·replace hm:=JT h5 hm;refine TS (WT (WN [0,6,7] Q Q ?_));refine bK hm (λ_=>([]:Fr)) (λ_=>([]:List (Nat×Blk))) [] [0,6,7] Q (λz6 hm hz6=>?_) (λj hm=>?_)
   ·refine TB (RS (SA TK Q (SA TK Q (TN (WN [0,3,6,7] Q Q (RS (SA TK Q (SA TK Q (TN (WN [0,3,6,7,10,11] Q Q ?_))))))))));refine TB (aO hm (λx8=>([(11,.d (.int .i64 x8))]:Fr)) (λx8=>([]:List (Nat×Blk))) [11] [0,3,6,7,10] [] Q k0 Q Q Q Q Q (λx8 z9 hm hz9=>WN [0,3,6,7,10,11] Q Q (RS (SA TK Q (TN (WN [0,3,6,7,10,11,12] Q Q (TQ ?_)))))));refine TC _ Q (λh10=>?_) (λh10=>?_)
    ·replace hm:=JT h10 hm;refine TS (WT (WN [0,3,6,7,10,11] Q Q (TQ (TB (RS (SA TK Q (SA TK Q (TN (WN [0,3,4,6,7,10,11] Q Q ?_)))))))));refine bM follows  ?_;iterate 2 (refine DA [] TK Q ?_)
     refine VE hm λe11 he11 hm=>DX [] Q Q (bF TK Q Q Q Q he11) ?_;iterate 3 (refine DA [] TK Q ?_)
     refine VE hm λe12 he12 hm=>DX [] Q Q (bF TK Q Q Q Q he12) ?_;iterate 2 (refine DA [] TK Q ?_)
     refine DT ?_ (by kernel_rfl);refine TN (WN [0,3,6,7,10,11,22] Q Q ?_);refine TC _ Q (λh13=>?_) (λh13=>?_)
     ·replace hm:=JT h13 hm;refine RS (SA TK Q (TN (WN [2] Q Q (TR (WB (WR (IE hm λv14 hm hz=>?_)))))));rw [hz9 _ hz] at hm;refine WR (WB (WB (IE hm λv15 hm hz=>?_)));rw [hz6 _ hz] at hm;refine WR (IE hm λv16 hm hz=>?_);rw [hz4 _ hz] at hm;refine WR (WB (IE hm λv17 hm hz=>?_));rw [hz1 _ hz] at hm;refine WR ?_;obtain rfl:=OJ hm;exact EndsS.one _ Q (.d _) (.refl _)
     replace hm:=JF h13 hm;refine TS (WK (WT (WN [0,3,6,7,10,11] Q Q (TG (GE hm λg18 hm=>SX Q Q (aU Q Q Q Q g18) (SA TK Q (TN ?_)))))));refine WT ?_;exact⟨_,[],(SJ hm),Q,k0,Q⟩
    replace hm:=JF h10 hm;refine aE (WX (IE hm λv19 hm hz=>?_));rw [hz9 _ hz] at hm;refine WX (WH (WK (WT ?_)));exact⟨_,[],(SJ hm),Q,k0,Q⟩
   refine WN [0,6,7] Q Q (TG (GE hm λg20 hm=>SX Q Q (aU Q Q Q Q g20) (SA TK Q (TN (WT ?_)))));exact⟨_,[],(SJ hm),Q,k0,Q⟩
  replace hm:=JF h5 hm;refine aE (WX (IE hm λv21 hm hz=>?_));rw [hz4 _ hz] at hm;refine WX (WH (WT ?_));exact⟨_,[],(SJ hm),Q,k0,Q⟩
 refine WN [] Q Q (RS (SA TK Q (TN (WN [2] Q Q (TR ?_)))));obtain rfl:=OJ hm;exact EndsS.one _ Q (.d _) (.refl _)
theorem qBX {p0:Layout} {r:Int} (hm:qO p0=some r):RetN Tryz.prog 189 [p0.enc] (.int .i64 r):=by
 refine .unit (aG qXV Tryz.func189 Q Tryz.ntmps189 Q Q (λwX gX=>?_)) Q;unfold qO at hm;refine WN [0] Q Q (RS (cM 0 Q Q Q (SA TK Q (TN (WN [1] Q Q (RS (gB (f:=(D.int .i64)) 1 3 1 Q Q Q (TN ?_))))))));refine WN [1,3] Q Q ?_;refine bK hm (λb1=>([(3,.msl 1 1 0 b1.length)]:Fr)) (λb1=>([(1,.flat 3 1 (b1.map (D.int .i64)))]:List (Nat×Blk))) [3] [] Q (λz2 hm hz2=>?_) (λb1 hm=>?_)
 ·refine RS (SA TK Q (SA TK Q (SX Q Q (aM TK Q Q Q) (SA TK Q (TN (WN [1,3,7,8,9] Q Q (TB (aO hm (λ(x6,b7)=>([(3,.msl 1 1 0 b7.length),(9,.d (.int .i64 x6))]:Fr)) (λ(x6,b7)=>([(1,.flat 3 1 (b7.map (D.int .i64)))]:List (Nat×Blk))) [3,9] [1,7,8] [0,1] Q k0 Q Q Q Q Q (λs z8 hm hz8=>?_)))))))));obtain⟨x6,b7⟩:=s;refine WN [1,3,7,8,9] Q Q (RS (SA TK Q (TN (WN [1,3,7,8,9,10] Q Q (TQ ?_)))));refine TC _ Q (λh9=>?_) (λh9=>?_)
  ·replace hm:=JT h9 hm;refine TS (WT (WN [1,3,7,8,9] Q Q (TQ (TB (RS (VE hm λe10 he10 hm=>SX Q Q (bF TK Q Q Q Q he10) (SA TK Q ?_)))))));refine cF 2 Q Q zAP Q (SA TK Q (TN (WN [1,3,5,7,8,9] Q Q (TQ ?_))));refine aH hm (λx11=>([(50,.d (.bool (x11)))]:Fr)) (λx11=>([]:List (Nat×Blk))) [50] [1,3,5,7,8,9] Q (λz12 hm=>?_) (λx11 hm=>?_)
   ·refine bW follows  ?_;iterate 3 (refine DA [0,1,2] TK Q ?_)
    refine d_b [0,1,2] TK Q (λq13 hq13=>?_);cases q13
    ·replace hm:=JF hq13 hm;iterate 4 (refine DA [0,1,2] TK Q ?_)
     refine d_b [0,1,2] TK Q (λq14 hq14=>?_);cases q14
     ·replace hm:=JF hq14 hm;iterate 4 (refine DA [0,1,2] TK Q ?_)
      refine d_b [0,1,2] TK Q (λq15 hq15=>?_);cases q15
      ·replace hm:=JF hq15 hm;iterate 4 (refine DA [0,1,2] TK Q ?_)
       refine DX [0,1,2] Q Q (aM TK Q Q Q) ?_;iterate 2 (refine DA [0,1,2] TK Q ?_)
       refine d_b [0,1,2] TK Q (λq16 hq16=>?_);cases q16
       ·replace hm:=JF hq16 hm;iterate 4 (refine DA [0,1,2] TK Q ?_)
        refine d_b [0,1,2] TK Q (λq17 hq17=>?_);cases q17
        ·replace hm:=JF hq17 hm;iterate 6 (refine DA [0,1,2] TK Q ?_)
         refine VE hm λe18 he18 hm=>DX [0,1,2] Q Q (bF TK Q Q Q Q he18) ?_;iterate 4 (refine DA [0,1,2] TK Q ?_)
         refine DT ?_ (by kernel_rfl);refine TN (WT ?_);exact⟨_,[0,1,2],(SJ hm),Q,k0,Q⟩
        replace hm:=JT hq17 hm;iterate 11 (refine DA [0,1,2] TK Q ?_)
        refine DT ?_ (by kernel_rfl);refine TN (WT ?_);exact⟨_,[0,1,2],(SJ hm),Q,k0,Q⟩
       replace hm:=JT hq16 hm;iterate 16 (refine DA [0,1,2] TK Q ?_)
       refine DT ?_ (by kernel_rfl);refine TN (WT ?_);exact⟨_,[0,1,2],(SJ hm),Q,k0,Q⟩
      replace hm:=JT hq15 hm;iterate 24 (refine DA [0,1,2] TK Q ?_)
      refine DT ?_ (by kernel_rfl);refine TN (WT ?_);exact⟨_,[0,1,2],(SJ hm),Q,k0,Q⟩
     replace hm:=JT hq14 hm;iterate 29 (refine DA [0,1,2] TK Q ?_)
     refine DT ?_ (by kernel_rfl);refine TN (WT ?_);exact⟨_,[0,1,2],(SJ hm),Q,k0,Q⟩
    replace hm:=JT hq13 hm;iterate 34 (refine DA [0,1,2] TK Q ?_)
    refine DT ?_ (by kernel_rfl);refine TN (WT ?_);exact⟨_,[0,1,2],(SJ hm),Q,k0,Q⟩
   refine WN [1,3,5,7,8,9,50] Q Q ?_;refine TC _ Q (λh19=>?_) (λh19=>?_)
   ·replace hm:=JA h19 hm;refine RS (SA TK Q (TN (WN [2] Q Q (TR (WR (WB (WR (IE hm λv20 hm hz=>?_))))))));rw [hz8 _ hz] at hm;refine WR (WB (IE hm λv21 hm hz=>?_));rw [hz2 _ hz] at hm;refine WR ?_;obtain rfl:=OJ hm;exact EndsS.one _ Q (.d _) (.refl _)
   replace hm:=JB h19 hm;refine TS (WT (WN [1,3,5,7,8,9] Q Q (TG (SA TK Q (SA TK Q (SA TK Q (SX Q Q (cX [.tmp 53] TK Q Q dY Q Q Q Q Q) (GE hm λg22 hm=>dM (f:=(D.int .i64)) ([e10.id]:List Int) TK Q Q dY Q Q Q Q Q (λh=>absurd h (zQV _)) Q dD g22 Q Q (SA TK Q ?_)))))))));refine TN (WK (WT (WN [1,3,7,8,9] Q Q (TG (GE hm λg23 hm=>SX Q Q (aU Q Q Q Q g23) (SA TK Q (TN ?_)))))));refine WT ?_;exact⟨_,[0,1],(SJ hm),Q,k0,Q⟩
  replace hm:=JF h9 hm;refine aE (WX (IE hm λv24 hm hz=>?_));rw [hz8 _ hz] at hm;refine WX (WH (WT ?_));exact⟨_,[0,1],(SJ hm),Q,k0,Q⟩
 refine WN [3] Q Q (TQ (RS (SA TK Q (BE hm λr25 hr25 hm=>SX Q Q (RN Q Q (SC (bO Q) SN) (qBW hr25)) (TN (WN [58] Q Q ?_))))));refine TC _ Q (λh26=>?_) (λh26=>?_)
 ·replace hm:=JA h26 hm;refine RS (SA TK Q (TN (WN [2] Q Q (TR (WR ?_)))));obtain rfl:=OJ hm;exact EndsS.one _ Q (.d _) (.refl _)
 replace hm:=JB h26 hm;refine TS (WT (WN [] Q Q (RS (SA TK Q (TN (WN [2] Q Q (TR ?_)))))));obtain rfl:=OJ hm;exact EndsS.one _ Q (.d _) (.refl _)
theorem qGD {p0:Layout} {r:Int} (hm:uA p0=some r):RetN Tryz.prog 125 [p0.enc] (.int .i64 r):=by
 refine .unit (aG qZP Tryz.func125 Q Tryz.ntmps125 Q Q (λwX gX=>?_)) Q;unfold uA at hm;refine WN [0] Q Q (RS (cM 0 Q Q Q (SA TK Q (TN (WN [1] Q Q (TQ (RS (SA TK Q ?_))))))));refine BE hm λr1 hr1 hm=>SX Q Q (RN Q Q (SC (.d _) SN) (qGC hr1)) (SA TK Q (TN (WN [1,3] Q Q (RS (SA TK Q (SA TK Q (TN (WN [1,3,9] Q Q ?_))))))));refine TC _ Q (λh2=>?_) (λh2=>?_)
 ·replace hm:=gO h2 hm;refine RS (SA TK Q (SA TK Q (TN (WN [2] Q Q (TR (WR ?_))))));obtain rfl:=OJ hm;exact EndsS.one _ Q (.d _) (.refl _)
 replace hm:=gP h2 hm;refine TS (WT (WN [1] Q Q (TQ (RS (SA TK Q (BE hm λr3 hr3 hm=>SX Q Q (RN Q Q (SC (.d _) SN) (qAC hr3)) (SA TK Q ?_)))))));refine TN (WN [1,4] Q Q (RS (SA TK Q (SA TK Q (TN (WN [1,4,14] Q Q ?_))))));refine TC _ Q (λh4=>?_) (λh4=>?_)
 ·replace hm:=gO h4 hm;refine RS (SA TK Q (SA TK Q (TN (WN [2] Q Q (TR (WR ?_))))));obtain rfl:=OJ hm;exact EndsS.one _ Q (.d _) (.refl _)
 replace hm:=gP h4 hm;refine TS (WT (WN [1] Q Q (TQ (RS (SA TK Q (BE hm λr5 hr5 hm=>SX Q Q (RN Q Q (SC (.d _) SN) (qBV hr5)) (SA TK Q ?_)))))));refine TN (WN [1,5] Q Q (RS (SA TK Q (SA TK Q (TN (WN [1,5,19] Q Q ?_))))));refine TC _ Q (λh6=>?_) (λh6=>?_)
 ·replace hm:=gO h6 hm;refine RS (SA TK Q (SA TK Q (TN (WN [2] Q Q (TR (WR ?_))))));obtain rfl:=OJ hm;exact EndsS.one _ Q (.d _) (.refl _)
 replace hm:=gP h6 hm;refine TS (WT (WN [1] Q Q (RS (SA TK Q (BE hm λr7 hr7 hm=>SX Q Q (RN Q Q (SC (.d _) SN) (qBX hr7)) (SA TK Q (TN ?_)))))));refine WN [2] Q Q (TR ?_);obtain rfl:=OJ hm;exact EndsS.one _ Q (.d _) (.refl _)
theorem lO {p0:Layout} {p1:Int} {r:Bool} (hm:jY p0 p1=some r):RetN Tryz.prog 202 [p0.enc,.int .i64 p1] (.bool (r)):=by
 refine .unit (aG qXI Tryz.func202 Q Tryz.ntmps202 Q Q (λwX gX=>?_)) Q;unfold jY at hm;refine WN [0,1] Q Q (RS (cM 0 Q Q Q (SA TK Q (TN (WN [1,2] Q Q ?_)))));refine fM [(4,.d (.bool (((decide ((0:Int)≤p1))&&(decide (p1 < (p0.elements.length:Int)))))))] [4] [] Q ?_ ?_
 ·refine TG (SA TK Q (SA TK Q (SB TK Q (λq1 hq1=>?_))));cases q1
  ·iterate 7 (refine SA TK Q ?_)
   refine TN (WT ?_);exact⟨[0],Q,k0,bE (aK (aL (by first|(simp [hq1];done)|(simp only [hq1];simp))) Q) Q⟩
  refine SA TK Q (SA TK Q (SA TK Q (SX Q Q (aM TK Q Q Q) (SA TK Q (SA TK Q (SA TK Q (TN (WT ?_))))))));exact⟨[0],Q,k0,bE (aK (aL (by first|(simp [hq1];done)|(simp only [hq1];simp))) Q) Q⟩
 refine WN [4] Q Q (TR ?_);obtain rfl:=OJ hm;exact EndsS.one _ Q (.d _) (.refl _)
theorem qIS {p0:Int} {p1:Int} {p2:Int} {r0:Int} {r1:Bool} (hm:kU p0 p1 p2=some (r0,r1)):Ret Tryz.prog 231 [] (λ_=>false) ([.int .i64 p0,.int .i64 p1,.int .i64 p2].map .d) (.tup ([.int .i64 r0,.bool (r1)].map .d)) []:=by
 refine gN qWJ Tryz.func231 Q Tryz.ntmps231 Q Q (λwX gX=>?_);unfold kU at hm;refine WN [0,1,2] Q Q (RS (SA TK Q (SA TK Q (TN (WN [0,1,2] Q Q (RS (SA TK Q (SA TK Q (SX Q Q (rd_min Q Q Q Q) (SA TK Q ?_))))))))));refine TN (WN [0,1,2,8] Q Q (RS (SA TK Q (SA TK Q (SX Q Q (qUL Q Q Q Q) (SA TK Q (TN (WN [0,8,9] Q Q (TQ ?_)))))))));refine fM [(21,.d (.bool (((decide (p0=(1:Int)))||(decide (p0=(3:Int)))))))] [21] [0,8,9] Q ?_ ?_
 ·refine TG (SA TK Q (SA TK Q (SB TK Q (λq1 hq1=>?_))));cases q1
  ·refine SA TK Q (SA TK Q (SA TK Q (TN (WT ?_))));exact⟨[],Q,k0,bE (aK (aL (by first|(simp [hq1];done)|(simp only [hq1];simp))) Q) Q⟩
  refine SA TK Q (SA TK Q (SA TK Q (TN (WT ?_))));exact⟨[],Q,k0,bE (aK (aL (by first|(simp [hq1];done)|(simp only [hq1];simp))) Q) Q⟩
 refine WN [0,8,9,21] Q Q ?_;refine TC _ Q (λh2=>?_) (λh2=>?_)
 ·replace hm:=JA h2 hm;refine fM [(6,.d (.int .i64 (0:Int))),(7,.d (.bool ((bif decide ((min p1 p2)=(0:Int)) then ((decide ((max p1 p2)=(1:Int)))||((decide (p0=(3:Int)))&&((decide ((min p1 p2)=(2:Int)))&&(decide ((max p1 p2)=(3:Int)))))) else ((decide (p0=(3:Int)))&&((decide ((min p1 p2)=(2:Int)))&&(decide ((max p1 p2)=(3:Int)))))))))] [6,7] [] Q ?_ ?_
  ·refine TG (SA TK Q (SA TK Q (SB TK Q (λq3 hq3=>?_))));cases q3
   ·iterate 6 (refine SA TK Q ?_)
    refine SB TK Q (λq4 hq4=>?_);cases q4
    ·iterate 10 (refine SA TK Q ?_)
     refine TN (WT ?_);exact⟨[],Q,k0,bE (aK Q (aK (aL (by first|(simp [hq3,hq4];done)|(simp only [hq3,hq4];simp))) Q)) Q⟩
    refine SA TK Q (SA TK Q (SA TK Q (SB TK Q (λq5 hq5=>?_))));cases q5
    ·iterate 6 (refine SA TK Q ?_)
     refine TN (WT ?_);exact⟨[],Q,k0,bE (aK Q (aK (aL (by first|(simp [hq3,hq4,hq5];done)|(simp only [hq3,hq4,hq5];simp))) Q)) Q⟩
    iterate 6 (refine SA TK Q ?_)
    refine TN (WT ?_);exact⟨[],Q,k0,bE (aK Q (aK (aL (by first|(simp [hq3,hq4,hq5];done)|(simp only [hq3,hq4,hq5];simp))) Q)) Q⟩
   refine SA TK Q (SA TK Q (SA TK Q (SB TK Q (λq6 hq6=>?_))));cases q6
   ·refine SA TK Q (SA TK Q (SB TK Q (λq7 hq7=>?_)));cases q7
    ·iterate 10 (refine SA TK Q ?_)
     refine TN (WT ?_);exact⟨[],Q,k0,bE (aK Q (aK (aL (by first|(simp [hq3,hq6,hq7];done)|(simp only [hq3,hq6,hq7];simp))) Q)) Q⟩
    refine SA TK Q (SA TK Q (SA TK Q (SB TK Q (λq8 hq8=>?_))));cases q8
    ·iterate 6 (refine SA TK Q ?_)
     refine TN (WT ?_);exact⟨[],Q,k0,bE (aK Q (aK (aL (by first|(simp [hq3,hq6,hq7,hq8];done)|(simp only [hq3,hq6,hq7,hq8];simp))) Q)) Q⟩
    iterate 6 (refine SA TK Q ?_)
    refine TN (WT ?_);exact⟨[],Q,k0,bE (aK Q (aK (aL (by first|(simp [hq3,hq6,hq7,hq8];done)|(simp only [hq3,hq6,hq7,hq8];simp))) Q)) Q⟩
   iterate 13 (refine SA TK Q ?_)
   refine TN (WT ?_);exact⟨[],Q,k0,bE (aK Q (aK (aL (by first|(simp [hq3,hq6];done)|(simp only [hq3,hq6];simp))) Q)) Q⟩
  refine WN [6,7] Q Q (TR (WR ?_));obtain⟨rfl,rfl⟩:=Prod.mk.inj (Option.some.inj hm);exact EndsT.two Q (.d _) (.refl _) (.d _) (.refl _)
 replace hm:=JB h2 hm;refine TS (WT (WN [0,8,9] Q Q (TQ ?_)));refine fM [(49,.d (.bool (((decide (p0=(2:Int)))&&((decide ((min p1 p2)=(0:Int)))&&(decide ((max p1 p2)=(1:Int))))))))] [49] [0,8,9] Q ?_ ?_
 ·refine TG (SA TK Q (SA TK Q (SB TK Q (λq9 hq9=>?_))));cases q9
  ·iterate 7 (refine SA TK Q ?_)
   refine TN (WT ?_);exact⟨[],Q,k0,bE (aK (aL (by first|(simp [hq9];done)|(simp only [hq9];simp))) Q) Q⟩
  refine SA TK Q (SA TK Q (SA TK Q (SB TK Q (λq10 hq10=>?_))));cases q10
  ·refine SA TK Q (SA TK Q (SA TK Q (TN (WT ?_))));exact⟨[],Q,k0,bE (aK (aL (by first|(simp [hq9,hq10];done)|(simp only [hq9,hq10];simp))) Q) Q⟩
  refine SA TK Q (SA TK Q (SA TK Q (TN (WT ?_))));exact⟨[],Q,k0,bE (aK (aL (by first|(simp [hq9,hq10];done)|(simp only [hq9,hq10];simp))) Q) Q⟩
 refine WN [0,8,9,49] Q Q ?_;refine TC _ Q (λh11=>?_) (λh11=>?_)
 ·replace hm:=JA h11 hm;refine RS (SA TK Q (SA TK Q (TN (WN [6,7] Q Q (TR (WR ?_))))));obtain⟨rfl,rfl⟩:=Prod.mk.inj (Option.some.inj hm);exact EndsT.two Q (.d _) (.refl _) (.d _) (.refl _)
 replace hm:=JB h11 hm;refine TS (WT (WN [0,8,9] Q Q (TQ ?_)));refine fM [(59,.d (.bool (((decide (p0=(2:Int)))&&((decide ((min p1 p2)=(0:Int)))&&(decide ((max p1 p2)=(2:Int))))))))] [59] [] Q ?_ ?_
 ·refine TG (SA TK Q (SA TK Q (SB TK Q (λq12 hq12=>?_))));cases q12
  ·iterate 7 (refine SA TK Q ?_)
   refine TN (WT ?_);exact⟨[],Q,k0,bE (aK (aL (by first|(simp [hq12];done)|(simp only [hq12];simp))) Q) Q⟩
  refine SA TK Q (SA TK Q (SA TK Q (SB TK Q (λq13 hq13=>?_))));cases q13
  ·refine SA TK Q (SA TK Q (SA TK Q (TN (WT ?_))));exact⟨[],Q,k0,bE (aK (aL (by first|(simp [hq12,hq13];done)|(simp only [hq12,hq13];simp))) Q) Q⟩
  refine SA TK Q (SA TK Q (SA TK Q (TN (WT ?_))));exact⟨[],Q,k0,bE (aK (aL (by first|(simp [hq12,hq13];done)|(simp only [hq12,hq13];simp))) Q) Q⟩
 refine WN [59] Q Q ?_;refine TC _ Q (λh14=>?_) (λh14=>?_)
 ·replace hm:=JA h14 hm;refine RS (SA TK Q (SA TK Q (TN (WN [6,7] Q Q (TR (WR ?_))))));obtain⟨rfl,rfl⟩:=Prod.mk.inj (Option.some.inj hm);exact EndsT.two Q (.d _) (.refl _) (.d _) (.refl _)
 replace hm:=JB h14 hm;refine TS (WT (WN [] Q Q (RS (SA TK Q (SA TK Q (TN (WN [6,7] Q Q (TR ?_))))))));obtain⟨rfl,rfl⟩:=Prod.mk.inj (Option.some.inj hm);exact EndsT.two Q (.d _) (.refl _) (.d _) (.refl _)
theorem nY {p0:Int} {p1:Int} {p2:Int} {r0:Int} {r1:Bool} (hm:kU p0 p1 p2=some (r0,r1)):RetT Tryz.prog 231 [.int .i64 p0,.int .i64 p1,.int .i64 p2] [.int .i64 r0,.bool (r1)]:=.of (mv:=λ_=>false) (qIS hm)
theorem qIT {p0:Int} {p1:Int} {r:(List Int)} (hm:xG p0 p1=some r):RetD Tryz.prog 203 [.int .i64 p0,.int .i64 p1] (.sl 1 (r.map (D.int .i64))):=by
 refine .of (mv:=λ_=>false) (aG qXH Tryz.func203 Q Tryz.ntmps203 Q Q (λwX gX=>?_));unfold xG at hm;refine WN [0,1] Q Q (RS (SA TK Q (TN (WN [0,1] Q Q (RS (gB (f:=(D.int .i64)) 0 3 1 Q Q Q (TN (WN [0,1,5] Q Q ?_))))))));refine aH hm (λb1=>([(5,.msl 0 1 0 b1.length)]:Fr)) (λb1=>([(0,.flat 3 1 (b1.map (D.int .i64)))]:List (Nat×Blk))) [5] [] Q (λz2 hm=>?_) (λb1 hm=>?_)
 ·refine RS (SA TK Q (TN (WN [0,1,5,6] Q Q (TB (aO hm (λ(side6,b7)=>([(5,.msl 0 1 0 b7.length),(6,.d (.int .i64 side6))]:Fr)) (λ(side6,b7)=>([(0,.flat 3 1 (b7.map (D.int .i64)))]:List (Nat×Blk))) [5,6] [0,1] [0] Q k0 Q Q Q Q Q (λs z8 hm hz8=>?_))))));obtain⟨side6,b7⟩:=s;refine WN [0,1,5,6] Q Q (TQ (RS (SA TK Q (SA TK Q (TN (WN [0,1,5,6,10] Q Q ?_))))));refine TC _ Q (λh9=>?_) (λh9=>?_)
  ·replace hm:=JT h9 hm;refine TS (WT (WN [0,1,5,6] Q Q (TQ (TB (RS (SA TK Q (SA TK Q (SA TK Q (BE hm λr10 hr10 hm=>?_)))))))));obtain⟨r11,r12⟩:=r10;refine SX Q Q (eS Q Q Q (nY hr10)) ?_;iterate 5 (refine SA TK Q ?_)
   refine TN (WN [0,1,5,6,8] Q Q (RS (SA TK Q (TN (WN [0,1,5,6,20] Q Q ?_)))));refine TC _ Q (λh13=>?_) (λh13=>?_)
   ·replace hm:=JA h13 hm;refine TG (SA TK Q (SA TK Q (SX Q Q (cX [.tmp 22] TK Q Q dY Q Q Q Q Q) (GE hm λg14 hm=>dM (f:=(D.int .i64)) ([side6]:List Int) TK Q Q dY Q Q Q Q Q (λh=>absurd h (zQV _)) Q dD g14 Q Q (SA TK Q (TN (WK (WT ?_))))))));refine WN [0,1,5,6] Q Q (TG (SA TK Q (GE hm λg15 hm=>SX Q Q (aU Q Q Q Q g15) (SA TK Q (TN (WT ?_))))));exact⟨_,[0],(SJ hm),Q,k0,Q⟩
   replace hm:=JB h13 hm;refine TS (WK (WT (WN [0,1,5,6] Q Q (TG (SA TK Q (GE hm λg16 hm=>SX Q Q (aU Q Q Q Q g16) (SA TK Q ?_)))))));refine TN (WT ?_);exact⟨_,[0],(SJ hm),Q,k0,Q⟩
  replace hm:=JF h9 hm;refine aE (WX (IE hm λv17 hm hz=>?_));rw [hz8 _ hz] at hm;refine WX (WH (WT ?_));exact⟨_,[0],(SJ hm),Q,k0,Q⟩
 refine WN [5] Q Q (RS (SA TK Q (SA TK Q (TN (WN [4] Q Q (TR ?_))))));obtain rfl:=OJ hm;exact EndsS.one _ Q (bO Q) (.refl _)
theorem rI {p0:Layout} {p1:End} {r:(List Step)} (hm:lQ p0 p1=some r):RetD Tryz.prog 135 [p0.enc,p1.enc] (.sl 3 (r.map Step.enc)):=by
 refine .of (mv:=λ_=>false) (aG qZF Tryz.func135 Q Tryz.ntmps135 Q Q (λwX gX=>?_));unfold lQ at hm;refine WN [0,1] Q Q (RS (cM 0 Q Q Q (cM 1 Q Q Q (SA TK Q (TN (WN [2,3] Q Q (TQ (RS ?_))))))));refine SA TK Q (SA TK Q (SA TK Q (BE hm λr1 hr1 hm=>SX Q Q (RN Q Q (SC (.d _) (SC (.d _) SN)) (lO hr1)) (SA TK Q (TN (WN [2,3,12] Q Q ?_))))));refine TC _ Q (λh2=>?_) (λh2=>?_)
 ·replace hm:=JA h2 hm;refine RS (SA TK Q (TN (qGS 4 [some 3] Q (WN [4] Q Q (TR (WR ?_))))));obtain rfl:=OJ hm;exact EndsS.one _ Q (.d _) (.refl _)
 replace hm:=JB h2 hm;refine TS (WT (WN [2,3] Q Q (bM follows  ?_)));iterate 4 (refine DA [0,1] TK Q ?_)
 refine VE hm λe3 he3 hm=>DX [0,1] Q Q (bF TK Q Q Q Q he3) ?_;iterate 4 (refine DA [0,1] TK Q ?_)
 refine BE hm λr4 hr4 hm=>DX [0,1] Q Q (RD Q Q Q (qIT hr4)) ?_;refine DT ?_ (by kernel_rfl);refine SA TK Q (TN (WN [3,5] Q Q (RS (gB (f:=Step.enc) 2 177 3 Q Q Q (TN (WN [3,5,6] Q Q ?_))))));refine aH hm (λb5=>([(6,.msl 2 3 0 b5.length)]:Fr)) (λb5=>([(2,.flat 177 3 (b5.map Step.enc))]:List (Nat×Blk))) [6] [] Q (λz6 hm=>?_) (λb5 hm=>?_)
 ·refine RS (SA TK Q (TN (WN [3,5,6,7] Q Q (TB (aO hm (λ(i10,b11)=>([(6,.msl 2 3 0 b11.length),(7,.d (.int .i64 i10))]:Fr)) (λ(i10,b11)=>([(2,.flat 177 3 (b11.map Step.enc))]:List (Nat×Blk))) [6,7] [3,5] [0,1,2] Q k0 Q Q Q Q Q (λs z12 hm hz12=>?_))))));obtain⟨i10,b11⟩:=s;refine WN [3,5,6,7] Q Q (TQ (RS (SA TK Q (SA TK Q (SX Q Q (aM TK Q Q Q) (SA TK Q (TN (WN [3,5,6,7,26] Q Q ?_))))))));refine TC _ Q (λh13=>?_) (λh13=>?_)
  ·replace hm:=JT h13 hm;refine TS (WT (WN [3,5,6,7] Q Q (TQ (TB (bW follows  ?_)))));iterate 7 (refine DA [0,1,2] TK Q ?_)
   refine VE hm λe14 he14 hm=>DX [0,1,2] Q Q (bF TK Q Q Q Q he14) (DA [0,1,2] TK Q (DX [0,1,2] Q Q (bR Q plc177 nR Q Q Q Q) (DX [0,1,2] Q Q (cX [.tmp 38] TK Q Q nR Q Q Q Q Q) ?_)));refine DT ?_ (by kernel_rfl);refine GE hm λg15 hm=>dM (f:=Step.enc) ([(⟨p1.el,p1.side,e14⟩:Step)]:List Step) TK Q Q nR Q Q Q Q Q (λh=>absurd h (zQV _)) Q dD g15 Q Q (SA TK Q (TN (WK (WT (WN [3,5,6,7] Q Q (TG (SA TK Q ?_)))))));refine GE hm λg16 hm=>SX Q Q (aU Q Q Q Q g16) (SA TK Q (TN (WT ?_)));exact⟨_,[0,1,2],(SJ hm),Q,k0,Q⟩
  replace hm:=JF h13 hm;refine aE (WX (IE hm λv17 hm hz=>?_));rw [hz12 _ hz] at hm;refine WX (WH (WT ?_));exact⟨_,[0,1,2],(SJ hm),Q,k0,Q⟩
 refine WN [6] Q Q (RS (SA TK Q (SA TK Q (TN (WN [4] Q Q (TR ?_))))));obtain rfl:=OJ hm;exact EndsS.one _ Q (bO Q) (.refl _)
theorem qIQ {p0:Layout} {p1:Step} {r0:Int} {r1:Bool} (hm:oZ p0 p1=some (r0,r1)):Ret Tryz.prog 204 [] (λ_=>false) ([p0.enc,p1.enc].map .d) (.tup ([.int .i64 r0,.bool (r1)].map .d)) []:=by
 refine gN qXG Tryz.func204 Q Tryz.ntmps204 Q Q (λwX gX=>?_);unfold oZ at hm;refine WN [0,1] Q Q (RS (cM 0 Q Q Q (cM 1 Q Q Q (SA TK Q (SA TK Q (TN (WN [2,3] Q Q (TQ (RS ?_)))))))));refine SA TK Q (SA TK Q (SA TK Q (BE hm λr1 hr1 hm=>SX Q Q (RN Q Q (SC (.d _) (SC (.d _) SN)) (lO hr1)) (SA TK Q (TN (WN [2,3,10] Q Q ?_))))));refine TC _ Q (λh2=>?_) (λh2=>?_)
 ·replace hm:=JA h2 hm;refine RS (SA TK Q (SA TK Q (TN (WN [4,5] Q Q (TR (WR ?_))))));obtain⟨rfl,rfl⟩:=Prod.mk.inj (Option.some.inj hm);exact EndsT.two Q (.d _) (.refl _) (.d _) (.refl _)
 replace hm:=JB h2 hm;refine TS (WT (WN [2,3] Q Q (bM follows  ?_)));iterate 4 (refine DA [0,1] TK Q ?_)
 refine VE hm λe3 he3 hm=>DX [0,1] Q Q (bF TK Q Q Q Q he3) ?_;iterate 6 (refine DA [0,1] TK Q ?_)
 refine BE hm λr4 hr4 hm=>?_;obtain⟨r5,r6⟩:=r4;refine DX [0,1] Q Q (eS Q Q Q (nY hr4)) ?_;iterate 2 (refine DA [0,1] TK Q ?_)
 refine DT ?_ (by kernel_rfl);refine SA TK Q (SA TK Q (TN (WN [4,5] Q Q (TR ?_))));obtain⟨rfl,rfl⟩:=Prod.mk.inj (Option.some.inj hm);exact EndsT.two Q (.d _) (.refl _) (.d _) (.refl _)
theorem yH {p0:Layout} {p1:Step} {r0:Int} {r1:Bool} (hm:oZ p0 p1=some (r0,r1)):RetT Tryz.prog 204 [p0.enc,p1.enc] [.int .i64 r0,.bool (r1)]:=.of (mv:=λ_=>false) (qIQ hm)
theorem qIR {p0:Layout} {p1:Step} {r0:End} {r1:Bool} (hm:kT p0 p1=some (r0,r1)):Ret Tryz.prog 136 [] (λ_=>false) ([p0.enc,p1.enc].map .d) (.tup ([r0.enc,.bool (r1)].map .d)) []:=by
 refine gN qZE Tryz.func136 Q Tryz.ntmps136 Q Q (λwX gX=>?_);unfold kT at hm;refine WN [0,1] Q Q (RS (cM 0 Q Q Q (cM 1 Q Q Q (cF 2 Q Q dV Q (SA TK Q (TN (WN [2,3,4] Q Q (RS ?_))))))));iterate 5 (refine SA TK Q ?_)
 refine SX Q Q (bR Q pD dV Q Q Q Q) (BE hm λr1 hr1 hm=>?_);obtain⟨r2,r3⟩:=r1;refine SX Q Q (eS Q Q Q (jV hr1)) ?_;iterate 4 (refine SA TK Q ?_)
 refine TN (WN [4,5] Q Q (TR ?_));obtain⟨rfl,rfl⟩:=Prod.mk.inj (Option.some.inj hm);exact⟨_,.mk _ (.cons (.agg (TK.lay Q) Q Q Q Q) (.cons (.tmp 5) .nil)) Q,(.cons (.d _) (.refl _) (.cons (.d _) (.refl _) .nil))⟩
theorem nV {p0:Layout} {p1:Step} {r0:End} {r1:Bool} (hm:kT p0 p1=some (r0,r1)):RetT Tryz.prog 136 [p0.enc,p1.enc] [r0.enc,.bool (r1)]:=.of (mv:=λ_=>false) (qIR hm)
theorem qFZ {p0:Layout} {p1:(List Step)} {r:Bool} (hm:tU p0 p1=some r):RetN Tryz.prog 247 [p0.enc,.sl 3 (p1.map Step.enc)] (.bool (r)):=by
 refine .unit (aG qWE Tryz.func247 Q Tryz.ntmps247 Q Q (λwX gX=>?_)) Q;unfold tU at hm;refine WN [0,1] Q Q (RS (cM 0 Q Q Q (SA TK Q (TN (WN [1,2] Q Q (TQ ?_))))));refine fM [(18,.d (.bool (((decide ((p1.length:Int)=(0:Int)))||(decide ((64:Int) < (p1.length:Int)))))))] [18] [1,2] Q ?_ ?_
 ·refine TG (SA TK Q (SX Q Q (aM TK Q Q Q) (SA TK Q (SB TK Q (λq1 hq1=>?_)))));cases q1
  ·refine SA TK Q (SX Q Q (aM TK Q Q Q) (SA TK Q (SA TK Q (TN (WT ?_)))));exact⟨[0],Q,k0,bE (aK (aL (by first|(simp [hq1];done)|(simp only [hq1];simp))) Q) Q⟩
  iterate 4 (refine SA TK Q ?_)
  refine TN (WT ?_);exact⟨[0],Q,k0,bE (aK (aL (by first|(simp [hq1];done)|(simp only [hq1];simp))) Q) Q⟩
 refine WN [1,2,18] Q Q ?_;refine TC _ Q (λh2=>?_) (λh2=>?_)
 ·replace hm:=JA h2 hm;refine RS (SA TK Q (TN (WN [4] Q Q (TR (WR ?_)))));obtain rfl:=OJ hm;exact EndsS.one _ Q (.d _) (.refl _)
 replace hm:=JB h2 hm;refine TS (WT (WN [1,2] Q Q ?_));refine bK hm (λ_=>([]:Fr)) (λ_=>([]:List (Nat×Blk))) [] [] Q (λz3 hm hz3=>?_) (λj hm=>?_)
 ·refine RS (SA TK Q (TN (WN [1,2,5] Q Q (TB (aO hm (λi5=>([(5,.d (.int .i64 i5))]:Fr)) (λi5=>([]:List (Nat×Blk))) [5] [1,2] [0] Q k0 Q Q Q Q Q (λi5 z6 hm hz6=>WN [1,2,5] Q Q (TQ (RS ?_))))))));refine SA TK Q (SA TK Q (SX Q Q (aM TK Q Q Q) (SA TK Q (TN (WN [1,2,5,22] Q Q ?_)))));refine TC _ Q (λh7=>?_) (λh7=>?_)
  ·replace hm:=JT h7 hm;refine TS (WT (WN [1,2,5] Q Q ?_));refine bK hm (λ_=>([]:Fr)) (λ_=>([]:List (Nat×Blk))) [] [1,2,5] Q (λz8 hm hz8=>?_) (λj hm=>?_)
   ·refine TB (bM follows  ?_);iterate 3 (refine DA [0] TK Q ?_)
    refine VE hm λe9 he9 hm=>DX [0] Q Q (bF TK Q Q Q Q he9) (DA [0] TK Q (BE hm λr10 hr10 hm=>?_));obtain⟨r11,r12⟩:=r10;refine DX [0] Q Q (eS Q Q Q (yH hr10)) ?_;iterate 4 (refine DA [0] TK Q ?_)
    refine DT ?_ (by kernel_rfl);refine SA TK Q (TN (WN [1,2,5,7] Q Q (TQ (RS (SA TK Q (SA TK Q (TN (WN [1,2,5,35] Q Q ?_))))))));refine TC _ Q (λh13=>?_) (λh13=>?_)
    ·replace hm:=JA h13 hm;refine RS (SA TK Q (TN (WN [4] Q Q (TR (WR (WB (IE hm λv14 hm hz=>?_)))))));rw [hz8 _ hz] at hm;refine WR (IE hm λv15 hm hz=>?_);rw [hz6 _ hz] at hm;refine WR (WB (IE hm λv16 hm hz=>?_));rw [hz3 _ hz] at hm;refine WR ?_;obtain rfl:=OJ hm;exact EndsS.one _ Q (.d _) (.refl _)
    replace hm:=JB h13 hm;refine TS (WT (WN [1,2,5] Q Q ?_));refine bK hm (λ_=>([]:Fr)) (λ_=>([]:List (Nat×Blk))) [] [1,2,5] Q (λz17 hm hz17=>?_) (λj hm=>?_)
    ·refine RS (SA TK Q (SA TK Q (TN (WN [1,2,5,37] Q Q ?_))));refine TC _ Q (λh18=>?_) (λh18=>?_)
     ·replace hm:=JT h18 hm;refine fA (bM follows  (DA [0] TK Q ?_));iterate 2 (refine DA [] TK Q ?_)
      refine GE hm λg19 hm=>DX [] Q Q (aU Q Q Q Q g19) (VE hm λe20 he20 hm=>DX [] Q Q (bF TK Q Q Q Q he20) (DA [] TK Q (BE hm λr21 hr21 hm=>?_)));obtain⟨r22,r23⟩:=r21;refine DX [] Q Q (eS Q Q Q (nV hr21)) ?_;iterate 3 (refine DA [] TK Q ?_)
      refine qX [1] _ (.mptr 1 0 0 0) Q (gZ Q) Q (mP Q Q dV Q Q) (qND 1000032 [1] [(1,.box 125 [.d (.int .i64 r22.el),.d (.int .i64 r22.side)])] (gZ Q) Q (tL TK Q Q Q Q Q Q Q Q Q Q) ?_);refine DT ?_ (by kernel_rfl);refine SA TK Q (TN (WN [1,2,5,8,9] Q Q ?_));refine aH hm (λx24=>([(69,.d (.bool (x24)))]:Fr)) (λx24=>([]:List (Nat×Blk))) [69] [1,2,5] Q (λz25 hm=>?_) (λx24 hm=>?_)
      ·refine bW follows  ?_;iterate 2 (refine DA [0,1] TK Q ?_)
       refine d_b [0,1] TK Q (λq26 hq26=>?_);cases q26
       ·replace hm:=JB hq26 hm;iterate 4 (refine DA [0,1] TK Q ?_)
        refine VE hm λe27 he27 hm=>DX [0,1] Q Q (bF TK Q Q Q Q he27) ?_;iterate 4 (refine DA [0,1] TK Q ?_)
        refine d_b [0,1] TK Q (λq28 hq28=>?_);cases q28
        ·replace hm:=gP hq28 hm;iterate 4 (refine DA [0,1] TK Q ?_)
         refine VE hm λe29 he29 hm=>DX [0,1] Q Q (bF TK Q Q Q Q he29) ?_;iterate 4 (refine DA [0,1] TK Q ?_)
         refine DT ?_ (by kernel_rfl);refine TN (WT ?_);exact⟨_,[0,1],(SJ hm),Q,k0,Q⟩
        replace hm:=gO hq28 hm;iterate 9 (refine DA [0,1] TK Q ?_)
        refine DT ?_ (by kernel_rfl);refine TN (WT ?_);exact⟨_,[0,1],(SJ hm),Q,k0,Q⟩
       replace hm:=JA hq26 hm;iterate 19 (refine DA [0,1] TK Q ?_)
       refine DT ?_ (by kernel_rfl);refine TN (WT ?_);exact⟨_,[0,1],(SJ hm),Q,k0,Q⟩
      refine WN [1,2,5,69] Q Q ?_;refine TC _ Q (λh30=>?_) (λh30=>?_)
      ·replace hm:=JA h30 hm;refine RS (SA TK Q (TN (WN [4] Q Q (TR (IE hm λv31 hm hz=>?_)))));rw [hz17 _ hz] at hm;refine WR (WB (IE hm λv32 hm hz=>?_));rw [hz8 _ hz] at hm;refine WR (IE hm λv33 hm hz=>?_);rw [hz6 _ hz] at hm;refine WR (WB (IE hm λv34 hm hz=>?_));rw [hz3 _ hz] at hm;refine WR ?_;obtain rfl:=OJ hm;exact EndsS.one _ Q (.d _) (.refl _)
      replace hm:=JB h30 hm;refine TS (WT ?_);exact⟨_,[0],(SJ hm),Q,k0,Q⟩
     replace hm:=JF h18 hm;refine TS (WT ?_);exact⟨_,[0],(SJ hm),Q,k0,Q⟩
    refine WN [1,2,5] Q Q (RS (SA TK Q (TN (WN [1,2,5,10] Q Q (TB (aO hm (λk36=>([(10,.d (.int .i64 k36))]:Fr)) (λk36=>([]:List (Nat×Blk))) [10] [1,2,5] [0] Q k0 Q Q Q Q Q (λk36 z37 hm hz37=>WN [1,2,5,10] Q Q (TQ ?_))))))));refine RS (SA TK Q (SA TK Q (SA TK Q (TN (WN [1,2,5,10,72] Q Q ?_)))));refine TC _ Q (λh38=>?_) (λh38=>?_)
    ·replace hm:=JT h38 hm;refine TS (WT (WN [1,2,5,10] Q Q (TQ (TB (bM follows  ?_)))));iterate 2 (refine DA [0] TK Q ?_)
     refine VE hm λe39 he39 hm=>DX [0] Q Q (bF TK Q Q Q Q he39) ?_;iterate 4 (refine DA [0] TK Q ?_)
     refine VE hm λe40 he40 hm=>DX [0] Q Q (bF TK Q Q Q Q he40) ?_;iterate 3 (refine DA [0] TK Q ?_)
     refine DT ?_ (by kernel_rfl);refine TN (WN [1,2,5,10,85] Q Q ?_);refine TC _ Q (λh41=>?_) (λh41=>?_)
     ·replace hm:=JT h41 hm;refine RS (SA TK Q (TN (WN [4] Q Q (TR (WB (WR (IE hm λv42 hm hz=>?_)))))));rw [hz37 _ hz] at hm;refine WR (WB (WB (IE hm λv43 hm hz=>?_)));rw [hz8 _ hz] at hm;refine WR (IE hm λv44 hm hz=>?_);rw [hz6 _ hz] at hm;refine WR (WB (IE hm λv45 hm hz=>?_));rw [hz3 _ hz] at hm;refine WR ?_;obtain rfl:=OJ hm;exact EndsS.one _ Q (.d _) (.refl _)
     replace hm:=JF h41 hm;refine TS (WK (WT (WN [1,2,5,10] Q Q (TG (SA TK Q (GE hm λg46 hm=>SX Q Q (aU Q Q Q Q g46) (SA TK Q ?_)))))));refine TN (WT ?_);exact⟨_,[0],(SJ hm),Q,k0,Q⟩
    replace hm:=JF h38 hm;refine aE (WX (IE hm λv47 hm hz=>?_));rw [hz37 _ hz] at hm;refine WX (WH (WK (WT ?_)));exact⟨_,[0],(SJ hm),Q,k0,Q⟩
   refine WN [1,2,5] Q Q (TG (SA TK Q (GE hm λg48 hm=>SX Q Q (aU Q Q Q Q g48) (SA TK Q (TN (WT ?_))))));exact⟨_,[0],(SJ hm),Q,k0,Q⟩
  replace hm:=JF h7 hm;refine aE (WX (IE hm λv49 hm hz=>?_));rw [hz6 _ hz] at hm;refine WX (WH (WT ?_));exact⟨_,[0],(SJ hm),Q,k0,Q⟩
 refine WN [] Q Q (RS (SA TK Q (TN (WN [4] Q Q (TR ?_)))));obtain rfl:=OJ hm;exact EndsS.one _ Q (.d _) (.refl _)
theorem jF {p0:Layout} {p1:Int} {r:Int} (hm:iM p0 p1=some r):RetN Tryz.prog 67 [p0.enc,.int .i64 p1] (.int .i64 r):=by
 refine .unit (aG zDO Tryz.func67 Q Tryz.ntmps67 Q Q (λwX gX=>?_)) Q;unfold iM at hm;refine WN [0,1] Q Q (RS (cM 0 Q Q Q (SA TK Q (TN (WN [1,2] Q Q (TQ ?_))))));refine fM [(13,.d (.bool (((decide (p1 < (0:Int)))||(decide ((p0.elements.length:Int)≤p1))))))] [13] [1,2] Q ?_ ?_
 ·refine TG (SA TK Q (SA TK Q (SB TK Q (λq1 hq1=>?_))));cases q1
  ·refine SA TK Q (SA TK Q (SA TK Q (SX Q Q (aM TK Q Q Q) (SA TK Q (SA TK Q (TN (WT ?_)))))));exact⟨[0],Q,k0,bE (aK (aL (by first|(simp [hq1];done)|(simp only [hq1];simp))) Q) Q⟩
  iterate 6 (refine SA TK Q ?_)
  refine TN (WT ?_);exact⟨[0],Q,k0,bE (aK (aL (by first|(simp [hq1];done)|(simp only [hq1];simp))) Q) Q⟩
 refine WN [1,2,13] Q Q ?_;refine TC _ Q (λh2=>?_) (λh2=>?_)
 ·replace hm:=JA h2 hm;refine RS (SA TK Q (TN (WN [4] Q Q (TR (WR ?_)))));obtain rfl:=OJ hm;exact EndsS.one _ Q (.d _) (.refl _)
 replace hm:=JB h2 hm;refine TS (WT (WN [1,2] Q Q (RS (SA TK Q (SA TK Q (SA TK Q (VE hm λe3 he3 hm=>SX Q Q (bF TK Q Q Q Q he3) (SA TK Q (SA TK Q (SA TK Q (TN ?_)))))))))));refine WN [4] Q Q (TR ?_);obtain rfl:=OJ hm;exact EndsS.one _ Q (.d _) (.refl _)
theorem qLI {p0:(List Int)} {p1:Int} {r:Bool} (hm:qAB p0 p1=some r):RetN Tryz.prog 206 [.sl 1 (p0.map (D.int .i64)),.int .i64 p1] (.bool (r)):=by
 refine .unit (aG qXE Tryz.func206 Q Tryz.ntmps206 Q Q (λwX gX=>?_)) Q;unfold qAB at hm;refine WN [0,1] Q Q (RS (SA TK Q (TN (WN [0,1] Q Q ?_))));refine bK hm (λ_=>([]:Fr)) (λ_=>([]:List (Nat×Blk))) [] [] Q (λz1 hm hz1=>?_) (λj hm=>?_)
 ·refine RS (SA TK Q (TN (WN [0,1,5] Q Q (TB (aO hm (λi3=>([(5,.d (.int .i64 i3))]:Fr)) (λi3=>([]:List (Nat×Blk))) [5] [0,1] [] Q k0 Q Q Q Q Q (λi3 z4 hm hz4=>WN [0,1,5] Q Q (TQ (RS ?_))))))));refine SA TK Q (SA TK Q (SX Q Q (aM TK Q Q Q) (SA TK Q (TN (WN [0,1,5,9] Q Q ?_)))));refine TC _ Q (λh5=>?_) (λh5=>?_)
  ·replace hm:=JT h5 hm;refine TS (WT (WN [0,1,5] Q Q (TQ (TB (RS (SA TK Q (SA TK Q (VE hm λe6 he6 hm=>SX Q Q (bF TK Q Q Q Q he6) ?_))))))));refine SA TK Q (SA TK Q (SA TK Q (TN (WN [0,1,5,17] Q Q ?_))));refine TC _ Q (λh7=>?_) (λh7=>?_)
   ·replace hm:=JT h7 hm;refine RS (SA TK Q (TN (WN [4] Q Q (TR (WB (WR (IE hm λv8 hm hz=>?_)))))));rw [hz4 _ hz] at hm;refine WR (WB (IE hm λv9 hm hz=>?_));rw [hz1 _ hz] at hm;refine WR ?_;obtain rfl:=OJ hm;exact EndsS.one _ Q (.d _) (.refl _)
   replace hm:=JF h7 hm;refine TS (WK (WT (WN [0,1,5] Q Q (TG (SA TK Q (GE hm λg10 hm=>SX Q Q (aU Q Q Q Q g10) (SA TK Q ?_)))))));refine TN (WT ?_);exact⟨_,[],(SJ hm),Q,k0,Q⟩
  replace hm:=JF h5 hm;refine aE (WX (IE hm λv11 hm hz=>?_));rw [hz4 _ hz] at hm;refine WX (WH (WT ?_));exact⟨_,[],(SJ hm),Q,k0,Q⟩
 refine WN [] Q Q (RS (SA TK Q (TN (WN [4] Q Q (TR ?_)))));obtain rfl:=OJ hm;exact EndsS.one _ Q (.d _) (.refl _)
theorem mI {p0:Layout} {p1:(List Step)} {r:(List Int)} (hm:jU p0 p1=some r):RetD Tryz.prog 138 [p0.enc,.sl 3 (p1.map Step.enc)] (.sl 1 (r.map (D.int .i64))):=by
 refine .of (mv:=λ_=>false) (aG qZC Tryz.func138 Q Tryz.ntmps138 Q Q (λwX gX=>?_));unfold jU at hm;refine WN [0,1] Q Q (RS (cM 0 Q Q Q (SA TK Q (TN (WN [1,2] Q Q (RS (gB (f:=(D.int .i64)) 1 3 1 Q Q Q (TN ?_))))))));refine WN [1,2,5] Q Q ?_;refine aH hm (λb1=>([(5,.msl 1 1 0 b1.length)]:Fr)) (λb1=>([(1,.flat 3 1 (b1.map (D.int .i64)))]:List (Nat×Blk))) [5] [] Q (λz2 hm=>?_) (λb1 hm=>?_)
 ·refine RS (SA TK Q (TN (WN [1,2,5,6] Q Q (TB (aO hm (λ(i6,b7)=>([(5,.msl 1 1 0 b7.length),(6,.d (.int .i64 i6))]:Fr)) (λ(i6,b7)=>([(1,.flat 3 1 (b7.map (D.int .i64)))]:List (Nat×Blk))) [5,6] [1,2] [0,1] Q k0 Q Q Q Q Q (λs z8 hm hz8=>?_))))));obtain⟨i6,b7⟩:=s;refine WN [1,2,5,6] Q Q (TQ (RS (SA TK Q (SA TK Q (SX Q Q (aM TK Q Q Q) (SA TK Q (TN (WN [1,2,5,6,10] Q Q ?_))))))));refine TC _ Q (λh9=>?_) (λh9=>?_)
  ·replace hm:=JT h9 hm;refine TS (WT (WN [1,2,5,6] Q Q (TQ (TB ?_))));refine aH hm (λx10=>([(34,.d (.bool (x10)))]:Fr)) (λx10=>([]:List (Nat×Blk))) [34] [1,2,5,6] Q (λz11 hm=>?_) (λx10 hm=>?_)
   ·refine bW follows  ?_;iterate 3 (refine DA [0,1] TK Q ?_)
    refine VE hm λe12 he12 hm=>DX [0,1] Q Q (bF TK Q Q Q Q he12) ?_;iterate 2 (refine DA [0,1] TK Q ?_)
    refine BE hm λr13 hr13 hm=>DX [0,1] Q Q (RN Q Q (SC (.d _) (SC (.d _) SN)) (lO hr13)) (d_b [0,1] TK Q (λq14 hq14=>?_));cases q14
    ·replace hm:=JB hq14 hm;iterate 14 (refine DA [0,1] TK Q ?_)
     refine DT ?_ (by kernel_rfl);refine TN (WT ?_);exact⟨_,[0,1],(SJ hm),Q,k0,Q⟩
    replace hm:=JA hq14 hm;iterate 5 (refine DA [0,1] TK Q ?_)
    refine VE hm λe15 he15 hm=>DX [0,1] Q Q (bF TK Q Q Q Q he15) ?_;iterate 2 (refine DA [0,1] TK Q ?_)
    refine VE hm λe16 he16 hm=>DX [0,1] Q Q (bF TK Q Q Q Q he16) ?_;iterate 2 (refine DA [0,1] TK Q ?_)
    refine BE hm λr17 hr17 hm=>DX [0,1] Q Q (RN Q Q (SC (bO Q) (SC (.d _) SN)) (qLI hr17)) ?_;iterate 2 (refine DA [0,1] TK Q ?_)
    refine DT ?_ (by kernel_rfl);refine TN (WT ?_);exact⟨_,[0,1],(SJ hm),Q,k0,Q⟩
   refine WN [1,2,5,6,34] Q Q ?_;refine TC _ Q (λh18=>?_) (λh18=>?_)
   ·replace hm:=JA h18 hm;refine bW follows  ?_;iterate 5 (refine DA [0,1] TK Q ?_)
    refine VE hm λe19 he19 hm=>DX [0,1] Q Q (bF TK Q Q Q Q he19) ?_;iterate 2 (refine DA [0,1] TK Q ?_)
    refine VE hm λe20 he20 hm=>DX [0,1] Q Q (bF TK Q Q Q Q he20) ?_;iterate 2 (refine DA [0,1] TK Q ?_)
    refine DX [0,1] Q Q (cX [.tmp 45] TK Q Q dY Q Q Q Q Q) ?_;refine DT ?_ (by kernel_rfl);refine GE hm λg21 hm=>dM (f:=(D.int .i64)) ([e20.sectionV]:List Int) TK Q Q dY Q Q Q Q Q (λh=>absurd h (zQV _)) Q dD g21 Q Q (SA TK Q (TN (WK (WT (WN [1,2,5,6] Q Q (TG (SA TK Q ?_)))))));refine GE hm λg22 hm=>SX Q Q (aU Q Q Q Q g22) (SA TK Q (TN (WT ?_)));exact⟨_,[0,1],(SJ hm),Q,k0,Q⟩
   replace hm:=JB h18 hm;refine TS (WK (WT (WN [1,2,5,6] Q Q (TG (SA TK Q (GE hm λg23 hm=>SX Q Q (aU Q Q Q Q g23) (SA TK Q ?_)))))));refine TN (WT ?_);exact⟨_,[0,1],(SJ hm),Q,k0,Q⟩
  replace hm:=JF h9 hm;refine aE (WX (IE hm λv24 hm hz=>?_));rw [hz8 _ hz] at hm;refine WX (WH (WT ?_));exact⟨_,[0,1],(SJ hm),Q,k0,Q⟩
 refine WN [5] Q Q (RS (SA TK Q (SA TK Q (TN (WN [4] Q Q (TR ?_))))));obtain rfl:=OJ hm;exact EndsS.one _ Q (bO Q) (.refl _)
theorem qIO {p0:Layout} {p1:End} {p2:(List Step)} {r:Bool} (hm:xF p0 p1 p2=some r):RetN Tryz.prog 230 [p0.enc,p1.enc,.sl 3 (p2.map Step.enc)] (.bool (r)):=by
 refine .unit (aG qWK Tryz.func230 Q Tryz.ntmps230 Q Q (λwX gX=>?_)) Q;unfold xF at hm;refine WN [0,1,2] Q Q (RS (cM 0 Q Q Q (cM 1 Q Q Q (SA TK Q (TN (WN [2,3,4] Q Q (TQ ?_)))))));refine aH hm (λx1=>([(40,.d (.bool (x1)))]:Fr)) (λx1=>([]:List (Nat×Blk))) [40] [2,3] Q (λz2 hm=>?_) (λx1 hm=>?_)
 ·refine bW follows  (DA [0,1] TK Q (DX [0,1] Q Q (aM TK Q Q Q) (DA [0,1] TK Q (d_b [0,1] TK Q (λq3 hq3=>?_)))));cases q3
  ·replace hm:=JF hq3 hm;refine DA [0,1] TK Q (DX [0,1] Q Q (aM TK Q Q Q) ?_);iterate 2 (refine DA [0,1] TK Q ?_)
   refine d_b [0,1] TK Q (λq4 hq4=>?_);cases q4
   ·replace hm:=JF hq4 hm;refine DA [0,1] TK Q (VE hm λe5 he5 hm=>DX [0,1] Q Q (bF TK Q Q Q Q he5) ?_);iterate 6 (refine DA [0,1] TK Q ?_)
    refine d_b [0,1] TK Q (λq6 hq6=>?_);cases q6
    ·replace hm:=gP hq6 hm;refine DA [0,1] TK Q (VE hm λe7 he7 hm=>DX [0,1] Q Q (bF TK Q Q Q Q he7) ?_);iterate 6 (refine DA [0,1] TK Q ?_)
     refine d_b [0,1] TK Q (λq8 hq8=>?_);cases q8
     ·replace hm:=gP hq8 hm;iterate 2 (refine DA [0,1] TK Q ?_)
      refine BE hm λr9 hr9 hm=>DX [0,1] Q Q (RN Q Q (SC (.d _) (SC (.d _) SN)) (qFZ hr9)) ?_;iterate 2 (refine DA [0,1] TK Q ?_)
      refine DT ?_ (by kernel_rfl);refine TN (WT ?_);exact⟨_,[0,1],(SJ hm),Q,k0,Q⟩
     replace hm:=gO hq8 hm;iterate 5 (refine DA [0,1] TK Q ?_)
     refine DT ?_ (by kernel_rfl);refine TN (WT ?_);exact⟨_,[0,1],(SJ hm),Q,k0,Q⟩
    replace hm:=gO hq6 hm;iterate 14 (refine DA [0,1] TK Q ?_)
    refine DT ?_ (by kernel_rfl);refine TN (WT ?_);exact⟨_,[0,1],(SJ hm),Q,k0,Q⟩
   replace hm:=JT hq4 hm;iterate 23 (refine DA [0,1] TK Q ?_)
   refine DT ?_ (by kernel_rfl);refine TN (WT ?_);exact⟨_,[0,1],(SJ hm),Q,k0,Q⟩
  replace hm:=JT hq3 hm;iterate 28 (refine DA [0,1] TK Q ?_)
  refine DT ?_ (by kernel_rfl);refine TN (WT ?_);exact⟨_,[0,1],(SJ hm),Q,k0,Q⟩
 refine WN [2,3,40] Q Q ?_;refine TC _ Q (λh10=>?_) (λh10=>?_)
 ·replace hm:=JA h10 hm;refine RS (SA TK Q (TN (WN [6] Q Q (TR (WR ?_)))));obtain rfl:=OJ hm;exact EndsS.one _ Q (.d _) (.refl _)
 replace hm:=JB h10 hm;refine TS (WT (WN [2,3] Q Q (RS (SA TK Q (TN (WN [2,3,7] Q Q ?_))))));refine aH hm (λchanges11=>([(7,.d (.int .i64 changes11))]:Fr)) (λchanges11=>([]:List (Nat×Blk))) [7] [2,3] Q (λz12 hm=>?_) (λchanges11 hm=>?_)
 ·refine RS (SA TK Q (TN (WN [2,3,7,8] Q Q (TB (aO hm (λ(changes15,i16)=>([(7,.d (.int .i64 changes15)),(8,.d (.int .i64 i16))]:Fr)) (λ(changes15,i16)=>([]:List (Nat×Blk))) [7,8] [2,3] [0,1] Q k0 Q Q Q Q Q (λs z17 hm hz17=>?_))))));obtain⟨changes15,i16⟩:=s;refine WN [2,3,7,8] Q Q (TQ (RS (SA TK Q (SA TK Q (SX Q Q (aM TK Q Q Q) (SA TK Q (TN (WN [2,3,7,8,44] Q Q ?_))))))));refine TC _ Q (λh18=>?_) (λh18=>?_)
  ·replace hm:=JT h18 hm;refine TS (WT (WN [2,3,7,8] Q Q (TQ (TB (bM follows  ?_)))));iterate 3 (refine DA [0,1] TK Q ?_)
   refine VE hm λe19 he19 hm=>DX [0,1] Q Q (bF TK Q Q Q Q he19) ?_;iterate 2 (refine DA [0,1] TK Q ?_)
   refine BE hm λr20 hr20 hm=>DX [0,1] Q Q (RN Q Q (SC (.d _) (SC (.d _) SN)) (jF hr20)) ?_;iterate 3 (refine DA [0,1] TK Q ?_)
   refine GE hm λg21 hm=>DX [0,1] Q Q (aU Q Q Q Q g21) (VE hm λe22 he22 hm=>DX [0,1] Q Q (bF TK Q Q Q Q he22) ?_);iterate 2 (refine DA [0,1] TK Q ?_)
   refine BE hm λr23 hr23 hm=>DX [0,1] Q Q (RN Q Q (SC (.d _) (SC (.d _) SN)) (jF hr23)) (DA [0,1] TK Q ?_);refine DT ?_ (by kernel_rfl);refine TN (WN [2,3,7,8,62] Q Q ?_);refine TC _ Q (λh24=>?_) (λh24=>?_)
   ·replace hm:=gO h24 hm;refine TG (SA TK Q (GE hm λg25 hm=>SX Q Q (aU Q Q Q Q g25) (SA TK Q (TN (WK (WT (WN [2,3,7,8] Q Q ?_)))))));refine TG (SA TK Q (GE hm λg26 hm=>SX Q Q (aU Q Q Q Q g26) (SA TK Q (TN (WT ?_)))));exact⟨_,[0,1],(SJ hm),Q,k0,Q⟩
   replace hm:=gP h24 hm;refine TS (WK (WT (WN [2,3,7,8] Q Q (TG (SA TK Q (GE hm λg27 hm=>SX Q Q (aU Q Q Q Q g27) (SA TK Q ?_)))))));refine TN (WT ?_);exact⟨_,[0,1],(SJ hm),Q,k0,Q⟩
  replace hm:=JF h18 hm;refine aE (WX (IE hm λv28 hm hz=>?_));rw [hz17 _ hz] at hm;refine WX (WH (WT ?_));exact⟨_,[0,1],(SJ hm),Q,k0,Q⟩
 refine WN [2,3,7] Q Q (RS (SA TK Q (SA TK Q (SA TK Q (BE hm λr29 hr29 hm=>SX Q Q (RD Q Q Q (mI hr29)) (SX Q Q (aM TK Q Q Q) (SA TK Q (SA TK Q (TN (WN [6] Q Q ?_))))))))));refine TR ?_;obtain rfl:=OJ hm;exact EndsS.one _ Q (.d _) (.refl _)
theorem tZ {p0:Layout} {p1:End} {r:Int} (hm:nX p0 p1=some r):RetN Tryz.prog 195 [p0.enc,p1.enc] (.int .i64 r):=by
 refine .unit (aG qXP Tryz.func195 Q Tryz.ntmps195 Q Q (λwX gX=>?_)) Q;unfold nX at hm;refine WN [0,1] Q Q (RS (cM 0 Q Q Q (cM 1 Q Q Q (SA TK Q (TN (WN [2,3] Q Q ?_))))));refine bK hm (λ_=>([]:Fr)) (λ_=>([]:List (Nat×Blk))) [] [] Q (λz1 hm hz1=>?_) (λj hm=>?_)
 ·refine RS (SA TK Q (SA TK Q (SX Q Q (aM TK Q Q Q) (SA TK Q (TN (WN [3,8,9,10] Q Q (TB (aO hm (λx3=>([(10,.d (.int .i64 x3))]:Fr)) (λx3=>([]:List (Nat×Blk))) [10] [3,8,9] [0,1] Q k0 Q Q Q Q Q (λx3 z4 hm hz4=>WN [3,8,9,10] Q Q ?_)))))))));refine RS (SA TK Q (TN (WN [3,8,9,10,11] Q Q (TQ ?_))));refine TC _ Q (λh5=>?_) (λh5=>?_)
  ·replace hm:=JT h5 hm;refine TS (WT (WN [3,8,9,10] Q Q (TQ (TB (RS (SA TK Q (VE hm λe6 he6 hm=>SX Q Q (bF TK Q Q Q Q he6) ?_)))))));refine SA TK Q (cF 2 Q Q nS Q (SA TK Q (SA TK Q (TN (WN [3,5,6,8,9,10] Q Q (RS (SA TK Q (SA TK Q (SA TK Q (GE hm λg7 hm=>SX Q Q (qFL Q Q Q g7.1 g7.2) ?_))))))))));refine TN (WN [3,5,8,9,10,18] Q Q ?_);refine TC _ Q (λh9=>?_) (λh9=>?_)
   ·replace hm:=JT h9 hm;refine RS (SA TK Q (SA TK Q (TN (WN [4] Q Q (TR (WB (WR (IE hm λv10 hm hz=>?_))))))));rw [hz4 _ hz] at hm;refine WR (WB (IE hm λv11 hm hz=>?_));rw [hz1 _ hz] at hm;refine WR ?_;obtain rfl:=OJ hm;exact EndsS.one _ Q (.d _) (.refl _)
   replace hm:=JF h9 hm;refine TS (WK (WT (WN [3,8,9,10] Q Q (TG (GE hm λg12 hm=>SX Q Q (aU Q Q Q Q g12) (SA TK Q (TN ?_)))))));refine WT ?_;exact⟨_,[0,1],(SJ hm),Q,k0,Q⟩
  replace hm:=JF h5 hm;refine aE (WX (IE hm λv13 hm hz=>?_));rw [hz4 _ hz] at hm;refine WX (WH (WT ?_));exact⟨_,[0,1],(SJ hm),Q,k0,Q⟩
 refine WN [] Q Q (RS (SA TK Q (TN (WN [4] Q Q (TR ?_)))));obtain rfl:=OJ hm;exact EndsS.one _ Q (.d _) (.refl _)
theorem qIP {p0:Layout} {p1:Step} {r0:Int} {r1:Bool} (hm:mH p0 p1=some (r0,r1)):Ret Tryz.prog 191 [] (λ_=>false) ([p0.enc,p1.enc].map .d) (.tup ([.int .i64 r0,.bool (r1)].map .d)) []:=by
 refine gN qXT Tryz.func191 Q Tryz.ntmps191 Q Q (λwX gX=>?_);unfold mH at hm;refine WN [0,1] Q Q (RS (cM 0 Q Q Q (cM 1 Q Q Q (SA TK Q (SA TK Q (TN (WN [2,3] Q Q (RS ?_))))))));iterate 5 (refine SA TK Q ?_)
 refine SX Q Q (bR Q pD dV Q Q Q Q) (BE hm λr1 hr1 hm=>SX Q Q (RN Q Q (SC (.d _) (SC (.d _) SN)) (tZ hr1)) (SA TK Q (TN (WN [2,3,6] Q Q (RS (SA TK Q (SA TK Q (BE hm λr2 hr2 hm=>?_))))))));obtain⟨r3,r4⟩:=r2;refine SX Q Q (eS Q Q Q (nV hr2)) (SA TK Q (SA TK Q (SA TK Q (cF 2 Q Q dV Q (SA TK Q (SA TK Q (TN (WN [6,8] Q Q ?_))))))));refine fM [(4,.d (.int .i64 r1)),(5,.d (.bool (((decide ((0:Int)≤r1))||(!(r4))))))] [4,5] [] Q ?_ ?_
 ·refine TG (SA TK Q (SA TK Q (SA TK Q (SB TK Q (λq5 hq5=>?_)))));cases q5
  ·iterate 5 (refine SA TK Q ?_)
   refine TN (WT ?_);exact⟨[0,1,2],Q,k0,bE (aK Q (aK (aL (by first|(simp [hq5];done)|(simp only [hq5];simp))) Q)) Q⟩
  iterate 5 (refine SA TK Q ?_)
  refine TN (WT ?_);exact⟨[0,1,2],Q,k0,bE (aK Q (aK (aL (by first|(simp [hq5];done)|(simp only [hq5];simp))) Q)) Q⟩
 refine WN [4,5] Q Q (TR ?_);obtain⟨rfl,rfl⟩:=Prod.mk.inj (Option.some.inj hm);exact EndsT.two Q (.d _) (.refl _) (.d _) (.refl _)
theorem sJ {p0:Layout} {p1:Step} {r0:Int} {r1:Bool} (hm:mH p0 p1=some (r0,r1)):RetT Tryz.prog 191 [p0.enc,p1.enc] [.int .i64 r0,.bool (r1)]:=.of (mv:=λ_=>false) (qIP hm)
theorem sI {p0:Layout} {p1:Int} {p2:Int} {r:ByteArray} (hm:oX p0 p1 p2=some r):RetN Tryz.prog 192 [p0.enc,.int .i64 p1,.int .i64 p2] (.str r):=by
 refine .unit (aG qXS Tryz.func192 Q Tryz.ntmps192 Q Q (λwX gX=>?_)) Q;unfold oX at hm;refine WN [0,1,2] Q Q (RS (cM 0 Q Q Q (SA TK Q (TN (WN [1,2,3] Q Q (TQ (RS (SA TK Q (SA TK Q ?_)))))))));refine TN (WN [1,2,3,8] Q Q ?_);refine TC _ Q (λh1=>?_) (λh1=>?_)
 ·replace hm:=JT h1 hm;refine RS (SA TK Q (SA TK Q (SA TK Q (VE hm λe2 he2 hm=>SX Q Q (bF TK Q Q Q Q he2) (SA TK Q (SA TK Q (GE hm λg3 hm=>SX Q Q (tJ Q Q Q g3) (SA TK Q (TN ?_)))))))));refine WN [6] Q Q (TR (WR ?_));obtain rfl:=OJ hm;exact EndsS.one _ Q (.d _) (.refl _)
 replace hm:=JF h1 hm;refine TS (WT (WN [1,2,3] Q Q (bM follows  ?_)));iterate 3 (refine DA [0] TK Q ?_)
 refine VE hm λe4 he4 hm=>DX [0] Q Q (bF TK Q Q Q Q he4) ?_;iterate 2 (refine DA [0] TK Q ?_)
 refine GE hm λg5 hm=>DX [0] Q Q (tJ Q Q Q g5) ?_;iterate 3 (refine DA [0] TK Q ?_)
 refine VE hm λe6 he6 hm=>DX [0] Q Q (bF TK Q Q Q Q he6) ?_;iterate 2 (refine DA [0] TK Q ?_)
 refine GE hm λg7 hm=>DX [0] Q Q (tJ Q Q Q g7) ?_;refine DT ?_ (by kernel_rfl);refine SA TK Q (TN (WN [6] Q Q (TR ?_)));obtain rfl:=OJ hm;exact EndsS.one _ Q (.d _) (.refl _)
theorem qDR {p0:(List Setting)} {p1:Setting} {r:(List Setting)} (hm:sK p0 p1=some r):RetD Tryz.prog 205 [.sl 2 (p0.map Setting.enc),p1.enc] (.sl 2 (r.map Setting.enc)):=by
 refine .of (mv:=λ_=>false) (aG qXF Tryz.func205 Q Tryz.ntmps205 Q Q (λwX gX=>?_));unfold sK at hm;refine WN [0,1] Q Q (RS (cM 0 Q Q Q (SA TK Q (TN (WN [0,3] Q Q (RS (gB (f:=Setting.enc) 1 148 2 Q Q Q (TN ?_))))))));refine WN [0,3,5] Q Q (RS (SA TK Q (TN (WN [0,3,5,6] Q Q ?_))));refine aH hm (λ(i1,b2)=>([(5,.msl 1 2 0 b2.length),(6,.d (.int .i64 i1))]:Fr)) (λ(i1,b2)=>([(1,.flat 148 2 (b2.map Setting.enc))]:List (Nat×Blk))) [5,6] [0,3] Q (λz3 hm=>?_) (λj hm=>?_)
 ·refine TB (aO hm (λ(i7,b8)=>([(5,.msl 1 2 0 b8.length),(6,.d (.int .i64 i7))]:Fr)) (λ(i7,b8)=>([(1,.flat 148 2 (b8.map Setting.enc))]:List (Nat×Blk))) [5,6] [0,3] [0,1] Q k0 Q Q Q Q Q (λs z9 hm hz9=>?_));obtain⟨i7,b8⟩:=s;refine WN [0,3,5,6] Q Q (TQ ?_);refine aH hm (λx10=>([(40,.d (.bool (x10)))]:Fr)) (λx10=>([]:List (Nat×Blk))) [40] [0,3,5,6] Q (λz11 hm=>?_) (λx10 hm=>?_)
  ·refine bW follows  ?_;iterate 2 (refine DA [0,1] TK Q ?_)
   refine DX [0,1] Q Q (aM TK Q Q Q) (DA [0,1] TK Q (d_b [0,1] TK Q (λq12 hq12=>?_)));cases q12
   ·replace hm:=JF hq12 hm;iterate 29 (refine DA [0,1] TK Q ?_)
    refine DT ?_ (by kernel_rfl);refine TN (WT ?_);exact⟨_,[0,1],(SJ hm),Q,k0,Q⟩
   replace hm:=JT hq12 hm;iterate 2 (refine DA [0,1] TK Q ?_)
   refine VE hm λe13 he13 hm=>DX [0,1] Q Q (bF TK Q Q Q Q he13) ?_;iterate 5 (refine DA [0,1] TK Q ?_)
   refine d_b [0,1] TK Q (λq14 hq14=>?_);cases q14
   ·replace hm:=JF hq14 hm;iterate 2 (refine DA [0,1] TK Q ?_)
    refine VE hm λe15 he15 hm=>DX [0,1] Q Q (bF TK Q Q Q Q he15) ?_;iterate 5 (refine DA [0,1] TK Q ?_)
    refine d_b [0,1] TK Q (λq16 hq16=>?_);cases q16
    ·replace hm:=JF hq16 hm;iterate 11 (refine DA [0,1] TK Q ?_)
     refine DT ?_ (by kernel_rfl);refine TN (WT ?_);exact⟨_,[0,1],(SJ hm),Q,k0,Q⟩
    replace hm:=JT hq16 hm;iterate 2 (refine DA [0,1] TK Q ?_)
    refine VE hm λe17 he17 hm=>DX [0,1] Q Q (bF TK Q Q Q Q he17) ?_;iterate 8 (refine DA [0,1] TK Q ?_)
    refine DT ?_ (by kernel_rfl);refine TN (WT ?_);exact⟨_,[0,1],(SJ hm),Q,k0,Q⟩
   replace hm:=JT hq14 hm;iterate 20 (refine DA [0,1] TK Q ?_)
   refine DT ?_ (by kernel_rfl);refine TN (WT ?_);exact⟨_,[0,1],(SJ hm),Q,k0,Q⟩
  refine WN [0,3,5,6,40] Q Q ?_;refine TC _ Q (λh18=>?_) (λh18=>?_)
  ·replace hm:=JA h18 hm;refine TS (WT (WN [0,3,5,6] Q Q (TB (RS (SA TK Q (SA TK Q (SA TK Q (VE hm λe19 he19 hm=>SX Q Q (bF TK Q Q Q Q he19) (SA TK Q ?_)))))))));refine SX Q Q (cX [.tmp 45] TK Q Q cS Q Q Q Q Q) (GE hm λg20 hm=>dM (f:=Setting.enc) ([e19]:List Setting) TK Q Q cS Q Q Q Q Q (λh=>absurd h (zQV _)) Q dD g20 Q Q (SA TK Q (TN (WN [0,3,5,6] Q Q (TG (SA TK Q (GE hm λg21 hm=>?_)))))));refine SX Q Q (aU Q Q Q Q g21) (SA TK Q (TN (WK (WT ?_))));exact⟨_,[0,1],(SJ hm),Q,k0,Q⟩
  replace hm:=JB h18 hm;refine aE (WX (IE hm λv22 hm hz=>?_));rw [hz9 _ hz] at hm;refine WX (WH (WT ?_));exact⟨_,[0,1],(SJ hm),Q,k0,Q⟩
 obtain⟨i1,b2⟩:=j;refine WN [0,3,5,6] Q Q ?_;refine aH hm (λb23=>([(5,.msl 1 2 0 b23.length)]:Fr)) (λb23=>([(1,.flat 148 2 (b23.map Setting.enc))]:List (Nat×Blk))) [5] [0,6] Q (λz24 hm=>?_) (λb23 hm=>?_)
 ·refine aH hm (λx25=>([(61,.d (.bool (x25)))]:Fr)) (λx25=>([]:List (Nat×Blk))) [61] [0,3,5,6] Q (λz26 hm=>?_) (λx25 hm=>?_)
  ·refine bW follows  ?_;iterate 2 (refine DA [0,1] TK Q ?_)
   refine DX [0,1] Q Q (aM TK Q Q Q) (DA [0,1] TK Q (d_b [0,1] TK Q (λq27 hq27=>?_)));cases q27
   ·replace hm:=JF hq27 hm;iterate 2 (refine DA [0,1] TK Q ?_)
    refine VE hm λe28 he28 hm=>DX [0,1] Q Q (bF TK Q Q Q Q he28) ?_;iterate 2 (refine DA [0,1] TK Q ?_)
    refine GE hm λg29 hm=>DX [0,1] Q Q (qFJ Q Q Q g29.1 g29.2) (DA [0,1] TK Q ?_);refine DT ?_ (by kernel_rfl);refine TN (WT ?_);exact⟨_,[0,1],(SJ hm),Q,k0,Q⟩
   replace hm:=JT hq27 hm;iterate 7 (refine DA [0,1] TK Q ?_)
   refine DT ?_ (by kernel_rfl);refine TN (WT ?_);exact⟨_,[0,1],(SJ hm),Q,k0,Q⟩
  refine WN [0,3,5,6,61] Q Q ?_;refine TC _ Q (λh31=>?_) (λh31=>?_)
  ·replace hm:=JA h31 hm;refine TG (SA TK Q (SA TK Q (SX Q Q (cX [.tmp 63] TK Q Q cS Q Q Q Q Q) (GE hm λg32 hm=>dM (f:=Setting.enc) ([p1]:List Setting) TK Q Q cS Q Q Q Q Q (λh=>absurd h (zQV _)) Q dD g32 Q Q (SA TK Q (TN (WT ?_)))))));exact⟨_,[0,1],(SJ hm),Q,k0,Q⟩
  replace hm:=JB h31 hm;refine TS (WT ?_);exact⟨_,[0,1],(SJ hm),Q,k0,Q⟩
 refine WN [0,5,6] Q Q (RS (SA TK Q (SA TK Q (SA TK Q (GE hm λg33 hm=>SX Q Q (x_cut TK Q Q Q Q Q g33) (GE hm λg34 hm=>dM (f:=Setting.enc) (sub p0 i1 (p0.length:Int)) TK Q Q cS Q Q Q Q Q (λh=>absurd h (zQV _)) Q dD g34 Q Q (SA TK Q (TN ?_))))))));refine WN [5] Q Q (RS (SA TK Q (SA TK Q (TN (WN [4] Q Q (TR ?_))))));obtain rfl:=OJ hm;exact EndsS.one _ Q (bO Q) (.refl _)
theorem rH {p0:Layout} {p1:(List Step)} {r:(List Setting)} (hm:lP p0 p1=some r):RetD Tryz.prog 137 [p0.enc,.sl 3 (p1.map Step.enc)] (.sl 2 (r.map Setting.enc)):=by
 refine .of (mv:=λ_=>false) (aG qZD Tryz.func137 Q Tryz.ntmps137 Q Q (λwX gX=>?_));unfold lP at hm;refine WN [0,1] Q Q (RS (cM 0 Q Q Q (SA TK Q (TN (WN [1,2] Q Q (RS (SA TK Q (TN ?_))))))));refine qGS 5 [some 2] Q (WN [1,2,5] Q Q ?_);refine aH hm (λout1=>([(5,.d (.sl 2 (out1.map Setting.enc)))]:Fr)) (λout1=>([]:List (Nat×Blk))) [5] [] Q (λz2 hm=>?_) (λout1 hm=>?_)
 ·refine RS (SA TK Q (TN (WN [1,2,5,6] Q Q (TB (aO hm (λ(out5,i6)=>([(5,.d (.sl 2 (out5.map Setting.enc))),(6,.d (.int .i64 i6))]:Fr)) (λ(out5,i6)=>([]:List (Nat×Blk))) [5,6] [1,2] [0] Q k0 Q Q Q Q Q (λs z7 hm hz7=>?_))))));obtain⟨out5,i6⟩:=s;refine WN [1,2,5,6] Q Q (TQ (RS (SA TK Q (SA TK Q (SX Q Q (aM TK Q Q Q) (SA TK Q (TN (WN [1,2,5,6,12] Q Q ?_))))))));refine TC _ Q (λh8=>?_) (λh8=>?_)
  ·replace hm:=JT h8 hm;refine TS (WT (WN [1,2,5,6] Q Q (TQ (TB (bM follows  ?_)))));iterate 3 (refine DA [0] TK Q ?_)
   refine VE hm λe9 he9 hm=>DX [0] Q Q (bF TK Q Q Q Q he9) (DA [0] TK Q (BE hm λr10 hr10 hm=>?_));obtain⟨r11,r12⟩:=r10;refine DX [0] Q Q (eS Q Q Q (yH hr10)) ?_;iterate 4 (refine DA [0] TK Q ?_)
   refine DT ?_ (by kernel_rfl);refine SA TK Q (TN (WN [1,2,5,6,7,8] Q Q ?_));refine fM [(28,.d (.bool ((r12&&(!(decide (r11=(0:Int))))))))] [28] [1,2,5,6,7] Q ?_ ?_
   ·refine TG (SA TK Q (SB TK Q (λq13 hq13=>?_)));cases q13
    ·refine SA TK Q (SA TK Q (SA TK Q (TN (WT ?_))));exact⟨[0],Q,k0,bE (aK (aL (by first|(simp [hq13];done)|(simp only [hq13];simp))) Q) Q⟩
    refine SA TK Q (SA TK Q (SA TK Q (TN (WT ?_))));exact⟨[0],Q,k0,bE (aK (aL (by first|(simp [hq13];done)|(simp only [hq13];simp))) Q) Q⟩
   refine WN [1,2,5,6,7,28] Q Q ?_;refine TC _ Q (λh14=>?_) (λh14=>?_)
   ·replace hm:=JA h14 hm;refine TG (SA TK Q (SA TK Q (SA TK Q (VE hm λe15 he15 hm=>SX Q Q (bF TK Q Q Q Q he15) (SA TK Q (SA TK Q (SA TK Q (SX Q Q (bR Q nK cS Q Q Q Q) (BE hm λr16 hr16 hm=>SX Q Q (RD Q Q Q (qDR hr16)) (SA TK Q ?_))))))))));refine TN (WK (WT (WN [1,2,5,6] Q Q (TG (SA TK Q (GE hm λg17 hm=>SX Q Q (aU Q Q Q Q g17) (SA TK Q ?_)))))));refine TN (WT ?_);exact⟨_,[0],(SJ hm),Q,k0,Q⟩
   replace hm:=JB h14 hm;refine TS (WK (WT (WN [1,2,5,6] Q Q (TG (SA TK Q (GE hm λg18 hm=>SX Q Q (aU Q Q Q Q g18) (SA TK Q ?_)))))));refine TN (WT ?_);exact⟨_,[0],(SJ hm),Q,k0,Q⟩
  replace hm:=JF h8 hm;refine aE (WX (IE hm λv19 hm hz=>?_));rw [hz7 _ hz] at hm;refine WX (WH (WT ?_));exact⟨_,[0],(SJ hm),Q,k0,Q⟩
 refine WN [5] Q Q (RS (SA TK Q (SA TK Q (TN (WN [4] Q Q (TR ?_))))));obtain rfl:=OJ hm;exact EndsS.one _ Q (.d _) (.refl _)
theorem tV {p0:Layout} {p1:(List Step)} {r:Int} (hm:nW p0 p1=some r):RetN Tryz.prog 133 [p0.enc,.sl 3 (p1.map Step.enc)] (.int .i64 r):=by
 refine .unit (aG qZH Tryz.func133 Q Tryz.ntmps133 Q Q (λwX gX=>?_)) Q;unfold nW at hm;refine WN [0,1] Q Q (RS (cM 0 Q Q Q (SA TK Q (TN (WN [1,2] Q Q (RS (SA TK Q (TN ?_))))))));refine WN [1,2,5] Q Q ?_;refine aH hm (λsum1=>([(5,.d (.int .i64 sum1))]:Fr)) (λsum1=>([]:List (Nat×Blk))) [5] [] Q (λz2 hm=>?_) (λsum1 hm=>?_)
 ·refine RS (SA TK Q (TN (WN [1,2,5,6] Q Q (TB (aO hm (λ(sum5,i6)=>([(5,.d (.int .i64 sum5)),(6,.d (.int .i64 i6))]:Fr)) (λ(sum5,i6)=>([]:List (Nat×Blk))) [5,6] [1,2] [0] Q k0 Q Q Q Q Q (λs z7 hm hz7=>?_))))));obtain⟨sum5,i6⟩:=s;refine WN [1,2,5,6] Q Q (TQ (RS (SA TK Q (SA TK Q (SX Q Q (aM TK Q Q Q) (SA TK Q (TN (WN [1,2,5,6,10] Q Q ?_))))))));refine TC _ Q (λh8=>?_) (λh8=>?_)
  ·replace hm:=JT h8 hm;refine TS (WT (WN [1,2,5,6] Q Q (TQ (TB (bM follows  ?_)))));iterate 3 (refine DA [0] TK Q ?_)
   refine VE hm λe9 he9 hm=>DX [0] Q Q (bF TK Q Q Q Q he9) ?_;iterate 2 (refine DA [0] TK Q ?_)
   refine BE hm λr10 hr10 hm=>DX [0] Q Q (RN Q Q (SC (.d _) (SC (.d _) SN)) (lO hr10)) ?_;refine DT ?_ (by kernel_rfl);refine TN (WN [1,2,5,6,19] Q Q ?_);refine TC _ Q (λh11=>?_) (λh11=>?_)
   ·replace hm:=JA h11 hm;refine bW follows  ?_;iterate 5 (refine DA [0] TK Q ?_)
    refine VE hm λe12 he12 hm=>DX [0] Q Q (bF TK Q Q Q Q he12) ?_;iterate 2 (refine DA [0] TK Q ?_)
    refine VE hm λe13 he13 hm=>DX [0] Q Q (bF TK Q Q Q Q he13) ?_;iterate 2 (refine DA [0] TK Q ?_)
    refine GE hm λg14 hm=>DX [0] Q Q (aU Q Q Q Q g14) ?_;refine DT ?_ (by kernel_rfl);refine SA TK Q (TN (WK (WT (WN [1,2,5,6] Q Q (TG (SA TK Q (GE hm λg15 hm=>SX Q Q (aU Q Q Q Q g15) ?_)))))));refine SA TK Q (TN (WT ?_));exact⟨_,[0],(SJ hm),Q,k0,Q⟩
   replace hm:=JB h11 hm;refine TS (WK (WT (WN [1,2,5,6] Q Q (TG (SA TK Q (GE hm λg16 hm=>SX Q Q (aU Q Q Q Q g16) (SA TK Q ?_)))))));refine TN (WT ?_);exact⟨_,[0],(SJ hm),Q,k0,Q⟩
  replace hm:=JF h8 hm;refine aE (WX (IE hm λv17 hm hz=>?_));rw [hz7 _ hz] at hm;refine WX (WH (WT ?_));exact⟨_,[0],(SJ hm),Q,k0,Q⟩
 refine WN [5] Q Q (RS (SA TK Q (SA TK Q (TN (WN [4] Q Q (TR ?_))))));obtain rfl:=OJ hm;exact EndsS.one _ Q (.d _) (.refl _)
theorem qBU {p0:Int} {r:ByteArray} (hm:qK p0=some r):RetN Tryz.prog 193 [.int .i64 p0] (.str r):=by
 refine .unit (aG qXR Tryz.func193 Q Tryz.ntmps193 Q Q (λwX gX=>?_)) Q;unfold qK at hm;refine WN [0] Q Q (RS (SA TK Q (TN (WN [0] Q Q (RS (SA TK Q (TN (WN [0,3] Q Q ?_))))))));refine aH hm (λs1=>([(3,.d (.str s1))]:Fr)) (λs1=>([]:List (Nat×Blk))) [3] [] Q (λz2 hm=>?_) (λs1 hm=>?_)
 ·refine TB (aO hm (λ(n5,s6)=>([(0,.d (.int .i64 n5)),(3,.d (.str s6))]:Fr)) (λ(n5,s6)=>([]:List (Nat×Blk))) [0,3] [] [] Q k0 Q Q Q Q Q (λs z7 hm hz7=>?_));obtain⟨n5,s6⟩:=s;refine WN [0,3] Q Q (TQ (RS (SA TK Q (SA TK Q (TN (WN [0,3,5] Q Q ?_))))));refine TC _ Q (λh8=>?_) (λh8=>?_)
  ·replace hm:=JT h8 hm;refine TS (WT (WN [0,3] Q Q (TB (RS (SA TK Q (GE hm λg9 hm=>SX Q Q (zFJ Q Q Q (zFC g9)) (GE hm λg10 hm=>?_)))))));refine SX Q Q (aU Q Q Q Q g10) (SX Q Q (zAR Q Tryz.underlying3 Tryz.underlying5 Q) (SX Q Q (cX [.tmp 9] TK Q Q zero5 Q Q Q Q Q) (SX Q Q (x_bstr (xs:=([(IntKind.u8.wrap ((48:Int)+(n5.tmod (10:Int))))]:List Int)) Q Tryz.underlying245 Tryz.underlying5 Tryz.underlying9 Q) (SA TK Q (GE hm λg11 hm=>SX Q Q (tJ Q Q Q g11) (SA TK Q (TN ?_)))))));refine WN [0,3] Q Q (TG (SA TK Q (GE hm λg12 hm=>SX Q Q (zFJ Q Q Q (zFD g12)) (SA TK Q (TN (WK (WT ?_)))))));exact⟨_,[],(SJ hm),Q,k0,Q⟩
  replace hm:=JF h8 hm;refine aE (WX (IE hm λv13 hm hz=>?_));rw [hz7 _ hz] at hm;refine WX (WH (WT ?_));exact⟨_,[],(SJ hm),Q,k0,Q⟩
 refine WN [3] Q Q (RS (SA TK Q (SA TK Q (TN (WN [2] Q Q (TR ?_))))));obtain rfl:=OJ hm;exact EndsS.one _ Q (.d _) (.refl _)
theorem tH:∀ (fu:Nat) {p0:Paths} {p1:Layout} {p2:End} {p3:End} {p4:(List Step)} {r:Paths} (hm:gJ fu p0 p1 p2 p3 p4=some r),Ret Tryz.prog 190 [.box 207 [.msl 1 1 0 p0.l.length],.flat 84 1 (p0.l.map (λ(l:List Step)=>D.sl 3 (l.map Step.enc)))] (λj=>Nat.beq j 1) [.mptr 0 0 0 0,.d (p1.enc),.d (p2.enc),.d (p3.enc),.d (.sl 3 (p4.map Step.enc))] (.tup []) [.box 207 [.msl 1 1 0 r.l.length],.flat 84 1 (r.l.map (λ(l:List Step)=>D.sl 3 (l.map Step.enc)))]:=by
 intro fu
 induction fu with
 | zero=>
  intro p0 p1 p2 p3 p4 r hm;unfold gJ at hm;cases hm
 | succ fu ih=>
  intro p0 p1 p2 p3 p4 r hm;refine cU qXU Tryz.func190 Q Tryz.ntmps190 Q Q (λwX gX=>?_);unfold gJ at hm;refine WN [0,1,2,3,4] Q Q (RS (cM 2 Q Q Q (cM 3 Q Q Q (cM 4 Q Q Q (TN (WN [0,4,6,7,8] Q Q (RS (SA TK Q (SA TK Q ?_)))))))));refine BE hm λr1 hr1 hm=>SX Q Q (RD Q Q Q (rI hr1)) (SA TK Q (TN (WN [0,4,6,7,10] Q Q (RS (SA TK Q (TN (WN [0,4,6,7,10,11] Q Q ?_)))))));refine TB (aO hm (λ(i5,b6)=>([(11,.d (.int .i64 i5))]:Fr)) (λ(i5,b6)=>([(0,.box 207 [.msl 1 1 0 b6.length]),(1,.flat 84 1 (b6.map (λ(l:List Step)=>D.sl 3 (l.map Step.enc))))]:List (Nat×Blk))) [11] [0,4,6,7,10] [0,1,2,3] Q (kB Q) Q Q Q Q Q (λs z7 hm hz7=>?_));obtain⟨i5,b6⟩:=s;refine WN [0,4,6,7,10,11] Q Q (TQ (RS (SA TK Q (SA TK Q (SX Q Q (aM TK Q Q Q) (SA TK Q (TN (WN [0,4,6,7,10,11,23] Q Q ?_))))))));refine TC _ Q (λh8=>?_) (λh8=>?_)
  ·replace hm:=JT h8 hm;refine TS (WT (WN [0,4,6,7,10,11] Q Q (TQ (TB (RS (gB (f:=Step.enc) 4 177 3 Q Q Q (TN (WN [0,4,6,7,10,11,12] Q Q ?_))))))));refine RS (SA TK Q (SA TK Q (GE hm λg9 hm=>?_)));refine dM (f:=Step.enc) p4 TK Q Q nR Q Q Q Q Q (λh=>absurd (show 4 < 2 from h) (by decide)) Q dD g9 Q Q ?_;refine SA TK Q (TN (WN [0,4,6,7,10,11,12] Q Q (RS (SA TK Q (SA TK Q (SA TK Q (VE hm λe10 he10 hm=>SX Q Q (bF TK Q Q Q Q he10) (SA TK Q (SX Q Q (cX [.tmp 33] TK Q Q nR Q Q Q Q Q) ?_)))))))));refine GE hm λg11 hm=>?_;refine dM (f:=Step.enc) ([e10]:List Step) TK Q Q nR Q Q Q Q Q (λh=>absurd (show 4 < 2 from h) (by decide)) Q dD g11 Q Q ?_;refine SA TK Q (TN (WN [0,4,6,7,10,11,12] Q Q (TQ (RS (SA TK Q (SA TK Q (SA TK Q (BE hm λr12 hr12 hm=>SX Q Q (RN Q Q (SC (.d _) (SC (.d _) (SC (bO Q) SN))) (qIO hr12)) (SA TK Q ?_)))))))));refine TN (WN [0,4,6,7,10,11,12,40] Q Q ?_);refine TC _ Q (λh13=>?_) (λh13=>?_)
   ·replace hm:=JA h13 hm;refine aE (WX (WH (WT (WN [0,4,6,7,10,11] Q Q (TG (SA TK Q (GE hm λg14 hm=>SX Q Q (aU Q Q Q Q g14) ?_)))))));refine SA TK Q (TN (WT ?_));exact⟨_,[0,1,2,3],(SJ hm),Q,(kB Q),Q⟩
   replace hm:=JB h13 hm;refine TS (WT (WN [0,4,6,7,10,11,12] Q Q (bM follows  ?_)));iterate 3 (refine DA [0,1,2,3,4] TK Q ?_)
   refine VE hm λe15 he15 hm=>DX [0,1,2,3,4] Q Q (bF TK Q Q Q Q he15) (DA [0,1,2,3,4] TK Q (BE hm λr16 hr16 hm=>?_));obtain⟨r17,r18⟩:=r16;refine DX [0,1,2,3,4] Q Q (eS Q Q Q (sJ hr16)) ?_;iterate 4 (refine DA [0,1,2,3,4] TK Q ?_)
   refine DT ?_ (by kernel_rfl);refine SA TK Q (TN (WN [0,4,6,7,10,11,12,14] Q Q (TQ (RS (SA TK Q (TN (WN [0,4,6,7,10,11,12,50] Q Q ?_)))))));refine TC _ Q (λh19=>?_) (λh19=>?_)
   ·replace hm:=JA h19 hm;refine kY 12 4 [0,4,6,7,10,11,50] Q Q Q Q Q (by simp) Q Q ?_;refine RS ?_;iterate 6 (refine SA TK Q ?_)
    refine SX Q Q (cX [.tmp 56] TK Q Q qTL Q Q Q Q Q) (GE hm λg20 hm=>dM (f:=(λ(l:List Step)=>D.sl 3 (l.map Step.enc))) ([((([]:List Step)++p4)++([e10]:List Step))]:List (List Step)) TK Q Q qTL Q Q Q Q Q (λ_=>Q) Q dD g20 Q Q (SA TK Q (SA TK Q (SA TK Q (TN (WN [0,4,6,7,10,11] Q Q (aE (WX (WH ?_)))))))));refine WT (WN [0,4,6,7,10,11] Q Q (TG (SA TK Q (GE hm λg21 hm=>SX Q Q (aU Q Q Q Q g21) (SA TK Q (TN (WT ?_)))))));exact⟨_,[0,1,2,3],(SJ hm),Q,(kB Q),Q⟩
   replace hm:=JB h19 hm;refine TS (WT (WN [0,4,6,7,10,11,12] Q Q (fA (bM follows  (DA [2] TK Q ?_)))));iterate 2 (refine DA [] TK Q ?_)
   refine VE hm λe22 he22 hm=>DX [] Q Q (bF TK Q Q Q Q he22) (DA [] TK Q (BE hm λr23 hr23 hm=>?_));obtain⟨r24,r25⟩:=r23;refine DX [] Q Q (eS Q Q Q (nV hr23)) ?_;iterate 3 (refine DA [] TK Q ?_)
   refine qX [5] _ (.mptr 5 0 0 0) Q (gZ Q) Q (mP Q Q dV Q Q) (qND 1000012 [5] [(5,.box 125 [.d (.int .i64 r24.el),.d (.int .i64 r24.side)])] (gZ Q) Q (tL TK Q Q Q Q Q Q Q Q Q Q) ?_);refine DT ?_ (by kernel_rfl);refine SA TK Q (TN (WN [0,4,6,7,10,11,12,15] Q Q ?_));refine kY 12 4 [0,4,6,7,10,11,15] Q Q Q Q Q (by simp) Q Q ?_;refine TG ?_;iterate 5 (refine SA TK Q ?_)
   refine BE hm λr26 hr26 hm=>?_;refine dG [0,1] (λj=>Nat.beq j 1) Q Q Q (by decide) Q Q Q Q (ih hr26) Q Q Q ?_;refine TN (WK (WT (WN [0,4,6,7,10,11] Q Q (TG (SA TK Q (GE hm λg27 hm=>SX Q Q (aU Q Q Q Q g27) (SA TK Q ?_)))))));refine TN (WT ?_);exact⟨_,[0,1,2,3],(SJ hm),Q,(kB Q),Q⟩
  replace hm:=JF h8 hm;refine aE (WX (IE hm λv28 hm hz=>?_));rw [hz7 _ hz] at hm;refine WX (WH ?_);obtain rfl:=OJ hm;exact⟨_,[0,1],res Q,by decide,(kB Q),Q,Q⟩
theorem tT {p0:Paths} {p1:Layout} {p2:End} {p3:End} {p4:(List Step)} {r:Paths} (hm:oY p0 p1 p2 p3 p4=some r):Ret Tryz.prog 190 [.box 207 [.msl 1 1 0 p0.l.length],.flat 84 1 (p0.l.map (λ(l:List Step)=>D.sl 3 (l.map Step.enc)))] (λj=>Nat.beq j 1) [.mptr 0 0 0 0,.d (p1.enc),.d (p2.enc),.d (p3.enc),.d (.sl 3 (p4.map Step.enc))] (.tup []) [.box 207 [.msl 1 1 0 r.l.length],.flat 84 1 (r.l.map (λ(l:List Step)=>D.sl 3 (l.map Step.enc)))]:=tH eU hm
theorem qIN {p0:Layout} {p1:Int} {r:(List Route)} (hm:xE p0 p1=some r):RetD Tryz.prog 126 [p0.enc,.int .i64 p1] (.sl 14 (r.map Route.enc)):=by
 refine .of (mv:=λ_=>false) (aG qZO Tryz.func126 Q Tryz.ntmps126 Q Q (λwX gX=>?_));unfold xE at hm;refine WN [0,1] Q Q (RS (cM 0 Q Q Q (SA TK Q (TN (WN [1,2] Q Q (TQ ?_))))));refine fM [(26,.d (.bool (((decide (p1 < (0:Int)))||(decide ((p0.signals.length:Int)≤p1))))))] [26] [1,2] Q ?_ ?_
 ·refine TG (SA TK Q (SA TK Q (SB TK Q (λq1 hq1=>?_))));cases q1
  ·refine SA TK Q (SA TK Q (SA TK Q (SX Q Q (aM TK Q Q Q) (SA TK Q (SA TK Q (TN (WT ?_)))))));exact⟨[0],Q,k0,bE (aK (aL (by first|(simp [hq1];done)|(simp only [hq1];simp))) Q) Q⟩
  iterate 6 (refine SA TK Q ?_)
  refine TN (WT ?_);exact⟨[0],Q,k0,bE (aK (aL (by first|(simp [hq1];done)|(simp only [hq1];simp))) Q) Q⟩
 refine WN [1,2,26] Q Q ?_;refine TC _ Q (λh2=>?_) (λh2=>?_)
 ·replace hm:=JA h2 hm;refine RS (SA TK Q (TN (qGS 4 [some 14] Q (WN [4] Q Q (TR (WR ?_))))));obtain rfl:=OJ hm;exact EndsS.one _ Q (.d _) (.refl _)
 replace hm:=JB h2 hm;refine TS (WT (WN [1,2] Q Q (fA (bM follows  (DA [0] TK Q (DA [] TK Q (DA [0] TK Q (DA [] TK Q ?_))))))));refine VE hm λe3 he3 hm=>DX [] Q Q (bF TK Q Q Q Q he3) ?_;iterate 2 (refine DA [] TK Q ?_)
 refine BE hm λr4 hr4 hm=>?_;obtain⟨r5,r6⟩:=r4;refine DX [] Q Q (eS Q Q Q (jV hr4)) ?_;iterate 3 (refine DA [] TK Q ?_)
 refine qX [1] _ (.mptr 1 0 0 0) Q (gZ Q) Q (mP Q Q dV Q Q) (qND 1000002 [1] [(1,.box 125 [.d (.int .i64 r5.el),.d (.int .i64 r5.side)])] (gZ Q) Q (tL TK Q Q Q Q Q Q Q Q Q Q) ?_);refine DT ?_ (by kernel_rfl);refine SA TK Q (TN (WN [1,2,5,6] Q Q (TQ (RS (SA TK Q (SA TK Q (TN (WN [1,2,5,39] Q Q ?_))))))));refine TC _ Q (λh7=>?_) (λh7=>?_)
 ·replace hm:=JA h7 hm;refine RS (SA TK Q (TN (qGS 4 [some 14] Q (WN [4] Q Q (TR (WR ?_))))));obtain rfl:=OJ hm;exact EndsS.one _ Q (.d _) (.refl _)
 replace hm:=JB h7 hm;refine TS (WT (WN [1,2,5] Q Q (RS (SX Q Q (gK Q plc207 zAQ Q Q Q Q) (cM 2 Q Q Q (SA TK Q (TN (c_upB (f:=(λ(l:List Step)=>D.sl 3 (l.map Step.enc))) 2 0 3 84 1 Q Q Q ?_))))))));refine WN [1,2,5,7] Q Q (RS ?_);iterate 4 (refine SA TK Q ?_)
 refine BE hm λr8 hr8 hm=>?_;refine qUH [2,3] (λj=>Nat.beq j 1) Q Q Q (by decide) Q Q Q Q (tT hr8) (.cons (.refl _) (.cons (.refl _) (.cons (.refl _) (.cons (.refl _) (.cons (.nilD _) .nil))))) Q Q Q ?_;refine TN (WN [1,2,7] Q Q (RS (gB (f:=Route.enc) 4 88 14 Q Q Q (TN (WN [1,2,7,8] Q Q ?_)))));refine aH hm (λb9=>([(8,.msl 4 14 0 b9.length)]:Fr)) (λb9=>([(4,.flat 88 14 (b9.map Route.enc))]:List (Nat×Blk))) [8] [] Q (λz10 hm=>?_) (λb9 hm=>?_)
 ·refine RS (SA TK Q (TN (WN [1,2,7,8,9] Q Q (TB (aO hm (λ(i14,b15)=>([(8,.msl 4 14 0 b15.length),(9,.d (.int .i64 i14))]:Fr)) (λ(i14,b15)=>([(4,.flat 88 14 (b15.map Route.enc))]:List (Nat×Blk))) [8,9] [1,2,7] [0,1,2,3,4] Q k0 Q Q Q Q Q (λs z16 hm hz16=>?_))))));obtain⟨i14,b15⟩:=s;refine WN [1,2,7,8,9] Q Q (TQ (RS ?_));iterate 7 (refine SA TK Q ?_)
  refine TN (WN [1,2,7,8,9,53] Q Q ?_);refine TC _ Q (λh17=>?_) (λh17=>?_)
  ·replace hm:=JT h17 hm;refine TS (WT (WN [1,2,7,8,9] Q Q ?_));refine aH hm (λb18=>([(8,.msl 4 14 0 b18.length)]:Fr)) (λb18=>([(4,.flat 88 14 (b18.map Route.enc))]:List (Nat×Blk))) [8] [1,2,7,9] Q (λz19 hm=>?_) (λb18 hm=>?_)
   ·refine TB (RS ?_);iterate 5 (refine SA TK Q ?_)
    refine VE hm λe20 he20 hm=>SX Q Q (pT TK Q Q Q Q he20 Q) (SX Q Q (wG TK Q Q Q Q he20.2 Q) (SA TK Q (TN (WN [1,2,7,8,9,10] Q Q (bM follows  ?_)))));iterate 3 (refine DA [0,1,2,3,4] TK Q ?_)
    refine DX [0,1,2,3,4] Q Q (aM TK Q Q Q) (GE hm λg21 hm=>DX [0,1,2,3,4] Q Q (aU Q Q Q Q g21) (VE hm λe22 he22 hm=>DX [0,1,2,3,4] Q Q (bF TK Q Q Q Q he22) (DA [0,1,2,3,4] TK Q (BE hm λr23 hr23 hm=>?_))));obtain⟨r24,r25⟩:=r23;refine DX [0,1,2,3,4] Q Q (eS Q Q Q (sJ hr23)) ?_;iterate 4 (refine DA [0,1,2,3,4] TK Q ?_)
    refine DT ?_ (by kernel_rfl);refine SA TK Q (TN (WN [1,2,7,8,9,10,11] Q Q (fA (bM follows  (DA [0] TK Q ?_)))));iterate 2 (refine DA [] TK Q ?_)
    refine BE hm λr26 hr26 hm=>DX [] Q Q (RN Q Q (SC (.d _) (SC (.d _) (SC (.d _) SN))) (sI hr26)) ?_;iterate 3 (refine DA [] TK Q ?_)
    refine DA [0] TK Q (DA [] TK Q (BE hm λr27 hr27 hm=>DX [] Q Q (RD Q Q Q (rH hr27)) (DA [0] TK Q (DA [] TK Q (BE hm λr28 hr28 hm=>DX [] Q Q (RD Q Q Q (mI hr28)) (DA [0] TK Q ?_))))));refine DA [] TK Q (BE hm λr29 hr29 hm=>DX [] Q Q (RN Q Q (SC (.d _) (SC (.d _) SN)) (tV hr29)) (DX [] Q Q (bR Q plc88 fL Q Q Q Q) (qX [5] _ (.mptr 5 0 0 0) Q (gZ Q) Q (mP Q Q fL Q Q) ?_)));refine DT ?_ (by kernel_rfl);refine SA TK Q (cN 5 [none,none,none,none,none,none,none,none,some 3,some 2,some 1,some 2,some 1,some 2] Q Q (TN (WN [1,2,7,8,9,11,13] Q Q (bM follows  ?_))));iterate 4 (refine DA [0,1,2,3,4,5] TK Q ?_)
    refine VE hm λe30 he30 hm=>DX [0,1,2,3,4,5] Q Q (bF TK Q Q Q Q he30) ?_;iterate 3 (refine DA [0,1,2,3,4,5] TK Q ?_)
    refine BE hm λr31 hr31 hm=>DX [0,1,2,3,4,5] Q Q (RN Q Q (SC (.d _) (SC (.d _) SN)) (jF hr31)) (DA [0,1,2,3,4,5] TK Q ?_);refine DT ?_ (by kernel_rfl);refine SA TK Q (TN (WN [1,2,7,8,9,11,13] Q Q (RS (SA TK Q (TN (WN [1,2,7,8,9,11,13,14] Q Q ?_))))));refine aH hm (λbefore32=>([(14,.d (.int .i64 before32))]:Fr)) (λbefore32=>([]:List (Nat×Blk))) [14] [1,2,7,8,9,13] Q (λz33 hm=>?_) (λbefore32 hm=>?_)
    ·refine RS (SA TK Q (TN (WN [1,2,7,8,9,11,13,14,15] Q Q (TB (aO hm (λ(before36,k37)=>([(14,.d (.int .i64 before36)),(15,.d (.int .i64 k37))]:Fr)) (λ(before36,k37)=>([]:List (Nat×Blk))) [14,15] [1,2,7,8,9,11,13] [0,1,2,3,4,5] Q k0 Q Q Q Q Q (λs z38 hm hz38=>?_))))));obtain⟨before36,k37⟩:=s;refine WN [1,2,7,8,9,11,13,14,15] Q Q (TQ (RS (SA TK Q (SA TK Q (SA TK Q (TN (WN [1,2,7,8,9,11,13,14,15,103] Q Q ?_)))))));refine TC _ Q (λh39=>?_) (λh39=>?_)
     ·replace hm:=JT h39 hm;refine TS (WT (WN [1,2,7,8,9,11,13,14,15] Q Q (TQ (TB (bM follows  ?_)))));iterate 6 (refine DA [0,1,2,3,4,5] TK Q ?_)
      refine VE hm λe40 he40 hm=>DX [0,1,2,3,4,5] Q Q (pT TK Q Q Q Q he40 Q) (DX [0,1,2,3,4,5] Q Q (wG TK Q Q Q Q he40.2 Q) ?_);iterate 5 (refine DA [0,1,2,3,4,5] TK Q ?_)
      refine VE hm λe41 he41 hm=>DX [0,1,2,3,4,5] Q Q (pT TK Q Q Q Q he41 Q) (DX [0,1,2,3,4,5] Q Q (wG TK Q Q Q Q he41.2 Q) (DX [0,1,2,3,4,5] Q Q (aM TK Q Q Q) (GE hm λg42 hm=>DX [0,1,2,3,4,5] Q Q (aU Q Q Q Q g42) (VE hm λe43 he43 hm=>DX [0,1,2,3,4,5] Q Q (bF TK Q Q Q Q he43) (DA [0,1,2,3,4,5] TK Q ?_)))));refine BE hm λr44 hr44 hm=>?_;obtain⟨r45,r46⟩:=r44;refine DX [0,1,2,3,4,5] Q Q (eS Q Q Q (sJ hr44)) ?_;iterate 4 (refine DA [0,1,2,3,4,5] TK Q ?_)
      refine DT ?_ (by kernel_rfl);refine SA TK Q (TN (WN [1,2,7,8,9,11,13,14,15,16] Q Q (bM follows  ?_)));iterate 3 (refine DA [0,1,2,3,4,5] TK Q ?_)
      refine BE hm λr47 hr47 hm=>DX [0,1,2,3,4,5] Q Q (RN Q Q (SC (.d _) (SC (.d _) (SC (.d _) SN))) (sI hr47)) ?_;iterate 3 (refine DA [0,1,2,3,4,5] TK Q ?_)
      refine BE hm λr48 hr48 hm=>DX [0,1,2,3,4,5] Q Q (RN Q Q (SC (.d _) (SC (.d _) (SC (.d _) SN))) (sI hr48)) (DA [0,1,2,3,4,5] TK Q ?_);refine DT ?_ (by kernel_rfl);refine TN (WN [1,2,7,8,9,11,13,14,15,137] Q Q ?_);refine TC _ Q (λh49=>?_) (λh49=>?_)
      ·replace hm:=JT h49 hm;refine TG (SA TK Q (GE hm λg50 hm=>SX Q Q (aU Q Q Q Q g50) (SA TK Q (TN (WK (WT (WN [1,2,7,8,9,11,13,14,15] Q Q ?_)))))));refine TG (SA TK Q (GE hm λg51 hm=>SX Q Q (aU Q Q Q Q g51) (SA TK Q (TN (WT ?_)))));exact⟨_,[0,1,2,3,4,5],(SJ hm),Q,k0,Q⟩
      replace hm:=JF h49 hm;refine TS (WK (WT (WN [1,2,7,8,9,11,13,14,15] Q Q (TG (SA TK Q (GE hm λg52 hm=>SX Q Q (aU Q Q Q Q g52) (SA TK Q ?_)))))));refine TN (WT ?_);exact⟨_,[0,1,2,3,4,5],(SJ hm),Q,k0,Q⟩
     replace hm:=JF h39 hm;refine aE (WX (IE hm λv53 hm hz=>?_));rw [hz38 _ hz] at hm;refine WX (WH (WT ?_));exact⟨_,[0,1,2,3,4,5],(SJ hm),Q,k0,Q⟩
    refine WN [1,2,7,8,9,13,14] Q Q ?_;refine aH hm (λc54=>([]:Fr)) (λc54=>([(5,.box 88 [.d (.str c54),.d (.int .i64 p1),.d (.int .i64 r24),.d (.sl 3 (e20.map Step.enc)),.d (.sl 2 (r27.map Setting.enc)),.d (.sl 1 (r28.map (D.int .i64))),.d (.int .i64 r31),.d (.int .i64 r29),.d (.sl 3 (([]:List Step).map Step.enc)),.d (.sl 2 (([]:List Setting).map Setting.enc)),.d (.sl 1 (([]:List Int).map (D.int .i64))),.d (.sl 2 (([]:List Setting).map Setting.enc)),.d (.sl 1 (([]:List Int).map (D.int .i64))),.d (.sl 2 (([]:List End).map End.enc))])]:List (Nat×Blk))) [] [1,2,7,8,9,13] Q (λz55 hm=>?_) (λc54 hm=>?_)
    ·refine RS (SA TK Q (SA TK Q (TN (WN [1,2,7,8,9,13,14,141] Q Q ?_))));refine TC _ Q (λh56=>?_) (λh56=>?_)
     ·replace hm:=JT h56 hm;refine bW follows  ?_;iterate 2 (refine DA [0,1,2,3,4,5] TK Q ?_)
      refine GE hm λg57 hm=>DX [0,1,2,3,4,5] Q Q (tJ Q Q Q g57) (DA [0,1,2,3,4,5] TK Q (BE hm λr58 hr58 hm=>DX [0,1,2,3,4,5] Q Q (RN Q Q (SC (.d _) SN) (qBU hr58)) (GE hm λg59 hm=>DX [0,1,2,3,4,5] Q Q (tJ Q Q Q g59) (DA [0,1,2,3,4,5] TK Q ?_))));refine DT ?_ (by kernel_rfl);refine SA TK Q (TN (WT ?_));exact⟨_,[0,1,2,3,4,5],(SJ hm),Q,k0,Q⟩
     replace hm:=JF h56 hm;refine TS (WT ?_);exact⟨_,[0,1,2,3,4,5],(SJ hm),Q,k0,Q⟩
    refine WN [1,2,7,8,9,13] Q Q (TG (SA TK Q (SA TK Q (SX Q Q (cX [.tmp 150] TK Q Q fL Q Q Q Q Q) (GE hm λg60 hm=>dM (f:=Route.enc) ([(⟨c54,p1,r24,e20,r27,r28,r31,r29,([]:List Step),([]:List Setting),([]:List Int),([]:List Setting),([]:List Int),([]:List End)⟩:Route)]:List Route) TK Q Q fL Q Q Q Q Q (λh=>absurd h (zQV _)) Q dD g60 Q Q (SA TK Q (TN (WK ?_))))))));refine WT ?_;exact⟨_,[0,1,2,3,4],(SJ hm),Q,k0,Q⟩
   refine WN [1,2,7,8,9] Q Q (TG (SA TK Q (GE hm λg61 hm=>SX Q Q (aU Q Q Q Q g61) (SA TK Q (TN (WT ?_))))));exact⟨_,[0,1,2,3,4],(SJ hm),Q,k0,Q⟩
  replace hm:=JF h17 hm;refine aE (WX (IE hm λv62 hm hz=>?_));rw [hz16 _ hz] at hm;refine WX (WH (WT ?_));exact⟨_,[0,1,2,3,4],(SJ hm),Q,k0,Q⟩
 refine WN [8] Q Q (RS (SA TK Q (SA TK Q (TN (WN [4] Q Q (TR ?_))))));obtain rfl:=OJ hm;exact EndsS.one _ Q (bO Q) (.refl _)
theorem qLH {p0:Layout} {r0:(List Route)} {r1:Int} (hm:qAA p0=some (r0,r1)):RetT Tryz.prog 63 [p0.enc] [.sl 14 (r0.map Route.enc),.int .i64 r1]:=by
 refine .of (mv:=λ_=>false) (gN zDS Tryz.func63 Q Tryz.ntmps63 Q Q (λwX gX=>?_));unfold qAA at hm;refine WN [0] Q Q (RS (cM 0 Q Q Q (SA TK Q (SA TK Q (TN (WN [1] Q Q (RS (SA TK Q (BE hm λr1 hr1 hm=>?_)))))))));refine SX Q Q (RN Q Q (SC (.d _) SN) (qGD hr1)) (SA TK Q (TN (WN [1,4] Q Q (TQ (RS (SA TK Q (SA TK Q (TN (WN [1,4,10] Q Q ?_)))))))));refine TC _ Q (λh2=>?_) (λh2=>?_)
 ·replace hm:=gO h2 hm;refine RS (SA TK Q (SA TK Q (SA TK Q (TN (qGS 2 [some 14] Q (WN [2,3] Q Q (TR (WR ?_))))))));obtain⟨rfl,rfl⟩:=Prod.mk.inj (Option.some.inj hm);exact EndsT.two Q (.d _) (.refl _) (.d _) (.refl _)
 replace hm:=gP h2 hm;refine TS (WT (WN [1] Q Q (RS (gB (f:=Route.enc) 1 88 14 Q Q Q (TN (WN [1,5] Q Q ?_))))));refine aH hm (λb3=>([(5,.msl 1 14 0 b3.length)]:Fr)) (λb3=>([(1,.flat 88 14 (b3.map Route.enc))]:List (Nat×Blk))) [5] [] Q (λz4 hm=>?_) (λb3 hm=>?_)
 ·refine RS (SA TK Q (TN (WN [1,5,6] Q Q (TB (aO hm (λ(i8,b9)=>([(5,.msl 1 14 0 b9.length),(6,.d (.int .i64 i8))]:Fr)) (λ(i8,b9)=>([(1,.flat 88 14 (b9.map Route.enc))]:List (Nat×Blk))) [5,6] [1] [0,1] Q k0 Q Q Q Q Q (λs z10 hm hz10=>?_))))));obtain⟨i8,b9⟩:=s;refine WN [1,5,6] Q Q (TQ (RS (SA TK Q (SA TK Q (SA TK Q (SX Q Q (aM TK Q Q Q) (SA TK Q (TN (WN [1,5,6,16] Q Q ?_)))))))));refine TC _ Q (λh11=>?_) (λh11=>?_)
  ·replace hm:=JT h11 hm;refine TS (WT (WN [1,5,6] Q Q (TQ (TB (TG (SA TK Q (SA TK Q (SA TK Q (BE hm λr12 hr12 hm=>SX Q Q (RD Q Q Q (qIN hr12)) ?_)))))))));refine GE hm λg13 hm=>dM (f:=Route.enc) r12 TK Q Q fL Q Q Q Q Q (λh=>absurd h (zQV _)) Q dD g13 Q Q (SA TK Q (TN (WK (WT (WN [1,5,6] Q Q (TG (SA TK Q ?_)))))));refine GE hm λg14 hm=>SX Q Q (aU Q Q Q Q g14) (SA TK Q (TN (WT ?_)));exact⟨_,[0,1],(SJ hm),Q,k0,Q⟩
  replace hm:=JF h11 hm;refine aE (WX (IE hm λv15 hm hz=>?_));rw [hz10 _ hz] at hm;refine WX (WH (WT ?_));exact⟨_,[0,1],(SJ hm),Q,k0,Q⟩
 refine WN [5] Q Q (TQ (RS (SA TK Q (SA TK Q (SA TK Q (TN (WN [5,26] Q Q ?_)))))));refine TC _ Q (λh16=>?_) (λh16=>?_)
 ·replace hm:=JT h16 hm;refine RS (SA TK Q (SA TK Q (TN (qGS 2 [some 14] Q (WN [2,3] Q Q (TR (WR ?_)))))));obtain⟨rfl,rfl⟩:=Prod.mk.inj (Option.some.inj hm);exact EndsT.two Q (.d _) (.refl _) (.d _) (.refl _)
 replace hm:=JF h16 hm;refine TS (WT (WN [5] Q Q (RS (SA TK Q (SA TK Q (SA TK Q (TN (WN [2,3] Q Q (TR ?_)))))))));obtain⟨rfl,rfl⟩:=Prod.mk.inj (Option.some.inj hm);exact EndsT.two Q (bO Q) (.refl _) (.d _) (.refl _)
theorem qDS {p0:Layout} {r:(List Int)} (hm:sM p0=some r):RetD Tryz.prog 64 [p0.enc] (.sl 1 (r.map (D.int .i64))):=by
 refine .of (mv:=λ_=>false) (aG zDR Tryz.func64 Q Tryz.ntmps64 Q Q (λwX gX=>?_));unfold sM at hm;refine WN [0] Q Q (RS (cM 0 Q Q Q (SA TK Q (TN (WN [1] Q Q (RS (gB (f:=(D.int .i64)) 1 3 1 Q Q Q (TN ?_))))))));refine WN [1,3] Q Q ?_;refine aH hm (λb1=>([(3,.msl 1 1 0 b1.length)]:Fr)) (λb1=>([(1,.flat 3 1 (b1.map (D.int .i64)))]:List (Nat×Blk))) [3] [] Q (λz2 hm=>?_) (λb1 hm=>?_)
 ·refine RS (SA TK Q (SA TK Q (SX Q Q (aM TK Q Q Q) (SA TK Q (TN (WN [3,7,8,9] Q Q (TB (aO hm (λ(x6,b7)=>([(3,.msl 1 1 0 b7.length),(9,.d (.int .i64 x6))]:Fr)) (λ(x6,b7)=>([(1,.flat 3 1 (b7.map (D.int .i64)))]:List (Nat×Blk))) [3,9] [7,8] [0,1] Q k0 Q Q Q Q Q (λs z8 hm hz8=>?_)))))))));obtain⟨x6,b7⟩:=s;refine WN [3,7,8,9] Q Q (RS (SA TK Q (TN (WN [3,7,8,9,10] Q Q (TQ ?_)))));refine TC _ Q (λh9=>?_) (λh9=>?_)
  ·replace hm:=JT h9 hm;refine TS (WT (WN [3,7,8,9] Q Q (TQ (TB (RS (SA TK Q (VE hm λe10 he10 hm=>SX Q Q (bF TK Q Q Q Q he10) ?_)))))));refine SA TK Q (cF 2 Q Q rX Q (SA TK Q (SA TK Q (TN (WN [3,4,5,7,8,9] Q Q (RS (SA TK Q (SA TK Q (SA TK Q (TN (WN [3,4,7,8,9,16] Q Q ?_)))))))))));refine TC _ Q (λh11=>?_) (λh11=>?_)
   ·replace hm:=JT h11 hm;refine TG (SA TK Q (SA TK Q (SX Q Q (cX [.tmp 18] TK Q Q dY Q Q Q Q Q) (GE hm λg12 hm=>dM (f:=(D.int .i64)) ([x6]:List Int) TK Q Q dY Q Q Q Q Q (λh=>absurd h (zQV _)) Q dD g12 Q Q (SA TK Q (TN (WK (WT ?_))))))));refine WN [3,7,8,9] Q Q (TG (GE hm λg13 hm=>SX Q Q (aU Q Q Q Q g13) (SA TK Q (TN (WT ?_)))));exact⟨_,[0,1],(SJ hm),Q,k0,Q⟩
   replace hm:=JF h11 hm;refine TS (WK (WT (WN [3,7,8,9] Q Q (TG (GE hm λg14 hm=>SX Q Q (aU Q Q Q Q g14) (SA TK Q (TN ?_)))))));refine WT ?_;exact⟨_,[0,1],(SJ hm),Q,k0,Q⟩
  replace hm:=JF h9 hm;refine aE (WX (IE hm λv15 hm hz=>?_));rw [hz8 _ hz] at hm;refine WX (WH (WT ?_));exact⟨_,[0,1],(SJ hm),Q,k0,Q⟩
 refine WN [3] Q Q (RS (SA TK Q (SA TK Q (TN (WN [2] Q Q (TR ?_))))));obtain rfl:=OJ hm;exact EndsS.one _ Q (bO Q) (.refl _)
theorem qIL {p0:Layout} {p1:Route} {r0:Signal} {r1:Bool} (hm:xC p0 p1=some (r0,r1)):Ret Tryz.prog 131 [] (λ_=>false) ([p0.enc,p1.enc].map .d) (.tup ([r0.enc,.bool (r1)].map .d)) []:=by
 refine gN qZJ Tryz.func131 Q Tryz.ntmps131 Q Q (λwX gX=>?_);unfold xC at hm;refine WN [0,1] Q Q (RS (cM 0 Q Q Q (cM 1 Q Q Q (cF 2 Q Q nS Q (SA TK Q (TN (WN [2,3,4] Q Q (TQ ?_))))))));refine fM [(16,.d (.bool (((decide (p1.exit < (0:Int)))||(decide ((p0.signals.length:Int)≤p1.exit))))))] [16] [2,3,4] Q ?_ ?_
 ·refine TG (SA TK Q (SA TK Q (SA TK Q (SB TK Q (λq1 hq1=>?_)))));cases q1
  ·iterate 4 (refine SA TK Q ?_)
   refine SX Q Q (aM TK Q Q Q) (SA TK Q (SA TK Q (TN (WT ?_))));exact⟨[0,1,2],Q,k0,bE (aK (aL (by first|(simp [hq1];done)|(simp only [hq1];simp))) Q) Q⟩
  iterate 7 (refine SA TK Q ?_)
  refine TN (WT ?_);exact⟨[0,1,2],Q,k0,bE (aK (aL (by first|(simp [hq1];done)|(simp only [hq1];simp))) Q) Q⟩
 refine WN [2,3,4,16] Q Q ?_;refine TC _ Q (λh2=>?_) (λh2=>?_)
 ·replace hm:=JA h2 hm;refine RS (SX Q Q (bR Q qOQ nS Q Q Q Q) (SA TK Q (SA TK Q (TN (WN [4,5] Q Q (TR (WR ?_)))))));obtain⟨rfl,rfl⟩:=Prod.mk.inj (Option.some.inj hm);exact⟨_,.mk _ (.cons (.agg (TK.lay Q) Q Q Q Q) (.cons (.tmp 5) .nil)) Q,(.cons (.d _) (.refl _) (.cons (.d _) (.refl _) .nil))⟩
 replace hm:=JB h2 hm;refine TS (WT (WN [2,3,4] Q Q (RS ?_)));iterate 4 (refine SA TK Q ?_)
 refine VE hm λe3 he3 hm=>SX Q Q (bF TK Q Q Q Q he3) (SA TK Q (SA TK Q (SA TK Q (TN (WN [4,5] Q Q (TR ?_))))));obtain⟨rfl,rfl⟩:=Prod.mk.inj (Option.some.inj hm);exact⟨_,.mk _ (.cons (.agg (TK.lay Q) Q Q Q Q) (.cons (.tmp 5) .nil)) Q,(.cons (.d _) (.refl _) (.cons (.d _) (.refl _) .nil))⟩
theorem qBT {p0:Layout} {p1:Route} {p2:(List Step)} {p3:Int} {r:Bool} (hm:qJ p0 p1 p2 p3=some r):RetN Tryz.prog 134 [p0.enc,p1.enc,.sl 3 (p2.map Step.enc),.int .i64 p3] (.bool (r)):=by
 refine .unit (aG qZG Tryz.func134 Q Tryz.ntmps134 Q Q (λwX gX=>?_)) Q;unfold qJ at hm;refine WN [0,1,2,3] Q Q (RS (cM 0 Q Q Q (cM 1 Q Q Q (SA TK Q (TN (WN [2,3,4,5] Q Q ?_))))));refine bK hm (λ_=>([]:Fr)) (λ_=>([]:List (Nat×Blk))) [] [3,4,5] Q (λz1 hm hz1=>?_) (λj hm=>?_)
 ·refine RS (SA TK Q (SX Q Q (aM TK Q Q Q) (SA TK Q (TN (WN [3,4,5,13,14,15] Q Q (TB (aO hm (λx3=>([(15,.d (.int .i64 x3))]:Fr)) (λx3=>([]:List (Nat×Blk))) [15] [3,4,5,13,14] [0,1] Q k0 Q Q Q Q Q (λx3 z4 hm hz4=>WN [3,4,5,13,14,15] Q Q ?_))))))));refine RS (SA TK Q (TN (WN [3,4,5,13,14,15,16] Q Q (TQ ?_))));refine TC _ Q (λh5=>?_) (λh5=>?_)
  ·replace hm:=JT h5 hm;refine TS (WT (WN [3,4,5,13,14,15] Q Q (TQ (TB (RS (VE hm λe6 he6 hm=>SX Q Q (bF TK Q Q Q Q he6) (SA TK Q ?_)))))));refine cF 2 Q Q nR Q (SA TK Q (TN (WN [3,4,5,10,13,14,15] Q Q (RS ?_))));iterate 4 (refine SA TK Q ?_)
   refine TN (WN [3,4,5,13,14,15,22] Q Q ?_);refine TC _ Q (λh7=>?_) (λh7=>?_)
   ·replace hm:=JT h7 hm;refine RS (SA TK Q (TN (WN [8] Q Q (TR (WB (WR (IE hm λv8 hm hz=>?_)))))));rw [hz4 _ hz] at hm;refine WR (WB (IE hm λv9 hm hz=>?_));rw [hz1 _ hz] at hm;refine WR ?_;obtain rfl:=OJ hm;exact EndsS.one _ Q (.d _) (.refl _)
   replace hm:=JF h7 hm;refine TS (WK (WT (WN [3,4,5,13,14,15] Q Q (TG (GE hm λg10 hm=>SX Q Q (aU Q Q Q Q g10) (SA TK Q (TN ?_)))))));refine WT ?_;exact⟨_,[0,1],(SJ hm),Q,k0,Q⟩
  replace hm:=JF h5 hm;refine aE (WX (IE hm λv11 hm hz=>?_));rw [hz4 _ hz] at hm;refine WX (WH (WT ?_));exact⟨_,[0,1],(SJ hm),Q,k0,Q⟩
 refine WN [3,4,5] Q Q ?_;refine bK hm (λ_=>([]:Fr)) (λ_=>([]:List (Nat×Blk))) [] [] Q (λz12 hm hz12=>?_) (λj hm=>?_)
 ·refine RS (SA TK Q (SA TK Q (SX Q Q (aM TK Q Q Q) (SA TK Q (TN (WN [3,4,25,26,27] Q Q (TB (aO hm (λx14=>([(27,.d (.int .i64 x14))]:Fr)) (λx14=>([]:List (Nat×Blk))) [27] [3,4,25,26] [0,1] Q k0 Q Q Q Q Q (λx14 z15 hm hz15=>WN [3,4,25,26,27] Q Q ?_)))))))));refine RS (SA TK Q (TN (WN [3,4,25,26,27,28] Q Q (TQ ?_))));refine TC _ Q (λh16=>?_) (λh16=>?_)
  ·replace hm:=JT h16 hm;refine TS (WT (WN [3,4,25,26,27] Q Q (TQ (TB (RS (VE hm λe17 he17 hm=>SX Q Q (bF TK Q Q Q Q he17) (SA TK Q (SA TK Q ?_))))))));refine TN (WN [3,4,12,25,26,27] Q Q (RS (SA TK Q (SA TK Q (SA TK Q (BE hm λr18 hr18 hm=>SX Q Q (RN Q Q (SC (.d _) (SC (.d _) SN)) (jF hr18)) (SA TK Q (TN (WN [3,4,25,26,27,35] Q Q ?_)))))))));refine TC _ Q (λh19=>?_) (λh19=>?_)
   ·replace hm:=JT h19 hm;refine RS (SA TK Q (TN (WN [8] Q Q (TR (WB (WR (IE hm λv20 hm hz=>?_)))))));rw [hz15 _ hz] at hm;refine WR (WB (IE hm λv21 hm hz=>?_));rw [hz12 _ hz] at hm;refine WR ?_;obtain rfl:=OJ hm;exact EndsS.one _ Q (.d _) (.refl _)
   replace hm:=JF h19 hm;refine TS (WK (WT (WN [3,4,25,26,27] Q Q (TG (GE hm λg22 hm=>SX Q Q (aU Q Q Q Q g22) (SA TK Q (TN ?_)))))));refine WT ?_;exact⟨_,[0,1],(SJ hm),Q,k0,Q⟩
  replace hm:=JF h16 hm;refine aE (WX (IE hm λv23 hm hz=>?_));rw [hz15 _ hz] at hm;refine WX (WH (WT ?_));exact⟨_,[0,1],(SJ hm),Q,k0,Q⟩
 refine WN [] Q Q (RS (SA TK Q (TN (WN [8] Q Q (TR ?_)))));obtain rfl:=OJ hm;exact EndsS.one _ Q (.d _) (.refl _)
theorem qIM {p0:Layout} {p1:Route} {r:Route} (hm:xD p0 p1=some r):RetD Tryz.prog 66 [p0.enc,p1.enc] (r.enc):=by
 refine .of (mv:=λ_=>false) (aG zDP Tryz.func66 Q Tryz.ntmps66 Q Q (λwX gX=>?_));unfold xD at hm;refine WN [0,1] Q Q (RS (cM 0 Q Q Q (cM 1 Q Q Q (cF 2 Q Q fL Q (eB (f:=Step.enc) 2 8 3 177 3 Q Q Q (cN 2 [none,none,none,some 3,some 2,some 1,none,none,none,some 2,some 1,some 2,some 1,some 2] Q Q (TN (WN [2,3,4] Q Q ?_))))))));refine RS (SA TK Q (SA TK Q (eB (f:=Step.enc) 1 8 4 177 3 Q Q Q (TN (WN [2,3,4] Q Q (RS (SA TK Q (SA TK Q (cN 1 [none,none,none,none,none,none,none,none,none,some 2,none,none,none,none] Q Q (TN ?_))))))))));refine WN [2,3,4] Q Q (RS (SA TK Q (SA TK Q (cN 1 [none,none,none,none,none,none,none,none,none,none,some 1,none,none,none] Q Q (TN (WN [2,3,4] Q Q (RS (SA TK Q (SA TK Q (BE hm λr1 hr1 hm=>?_))))))))));obtain⟨r2,r3⟩:=r1;refine SX Q Q (qHB Q Q (SC (.d _) (SC (fG (.cons (.d _) Q (.cons (.d _) Q (.cons (.d _) Q (.cons (.d _) Q (.cons (.d _) Q (.cons (.d _) Q (.cons (.d _) Q (.cons (.d _) Q (.cons (bO Q) Q (.cons (.d _) Q (.cons (.d _) Q (.cons (.d _) Q (.cons (.d _) Q (.cons (.d _) Q .nil))))))))))))))) SN)) (qIL hr1) Q) (SA TK Q (SA TK Q (SA TK Q (cF 5 Q Q nS Q (SA TK Q (SA TK Q (TN (WN [2,3,4,5,6] Q Q (TQ (RS (SA TK Q (SA TK Q ?_))))))))))));refine TN (WN [2,3,4,5,20] Q Q ?_);refine TC _ Q (λh4=>?_) (λh4=>?_)
 ·replace hm:=JA h4 hm;refine RS (SA TK Q (SA TK Q (TN (WN [4] Q Q (TR (WR ?_))))));obtain rfl:=OJ hm;exact EndsS.cellR _ TK Q Q Q Q Q (fG (.cons (.d _) Q (.cons (.d _) Q (.cons (.d _) Q (.cons (.d _) Q (.cons (.d _) Q (.cons (.d _) Q (.cons (.d _) Q (.cons (.d _) Q (.cons (bO Q) Q (.cons (.d _) Q (.cons (.d _) Q (.cons (.d _) Q (.cons (.d _) Q (.cons (.d _) Q .nil)))))))))))))))
 replace hm:=JB h4 hm;refine TS (WT (WN [2,3,4,5] Q Q (RS (SA TK Q (SA TK Q (SA TK Q (BE hm λr5 hr5 hm=>?_)))))));obtain⟨r6,r7⟩:=r5;refine SX Q Q (eS Q Q Q (jV hr5)) (SA TK Q (SA TK Q (SA TK Q (cF 6 Q Q dV Q (SA TK Q (SA TK Q (TN (WN [2,3,4,5,7,8] Q Q ?_))))))));refine aH hm (λ(b8,c9,c10)=>([]:Fr)) (λ(b8,c9,c10)=>([(1,.box 88 [.d (.str p1.name),.d (.int .i64 p1.entry),.d (.int .i64 p1.exit),.d (.sl 3 (p1.path.map Step.enc)),.d (.sl 2 (p1.points.map Setting.enc)),.d (.sl 1 (p1.sections.map (D.int .i64))),.d (.int .i64 p1.approach),.d (.int .i64 p1.length),.msl 4 3 0 b8.length,.d (.sl 2 (([]:List Setting).map Setting.enc)),.d (.sl 1 (([]:List Int).map (D.int .i64))),.d (.sl 2 (p1.flank.map Setting.enc)),.d (.sl 1 (p1.guards.map (D.int .i64))),.d (.sl 2 (p1.gaps.map End.enc))]),(4,.flat 177 3 (b8.map Step.enc)),(6,.box 125 [.d (.int .i64 c9),.d (.int .i64 c10)])]:List (Nat×Blk))) [] [2,3,4] Q (λz11 hm=>?_) (λj hm=>?_)
 ·refine TB (aO hm (λ(joined17,c18,c19,b20)=>([(8,.d (.bool (joined17)))]:Fr)) (λ(joined17,c18,c19,b20)=>([(1,.box 88 [.d (.str p1.name),.d (.int .i64 p1.entry),.d (.int .i64 p1.exit),.d (.sl 3 (p1.path.map Step.enc)),.d (.sl 2 (p1.points.map Setting.enc)),.d (.sl 1 (p1.sections.map (D.int .i64))),.d (.int .i64 p1.approach),.d (.int .i64 p1.length),.msl 4 3 0 b20.length,.d (.sl 2 (([]:List Setting).map Setting.enc)),.d (.sl 1 (([]:List Int).map (D.int .i64))),.d (.sl 2 (p1.flank.map Setting.enc)),.d (.sl 1 (p1.guards.map (D.int .i64))),.d (.sl 2 (p1.gaps.map End.enc))]),(4,.flat 177 3 (b20.map Step.enc)),(6,.box 125 [.d (.int .i64 c18),.d (.int .i64 c19)])]:List (Nat×Blk))) [8] [2,3,4,5,7] [0,1,2,3,4,5,6] Q k0 Q Q Q Q Q (λs z21 hm hz21=>?_));obtain⟨joined17,c18,c19,b20⟩:=s;refine WN [2,3,4,5,7,8] Q Q (TQ ?_);refine aH hm (λx22=>([(54,.d (.bool (x22)))]:Fr)) (λx22=>([]:List (Nat×Blk))) [54] [2,3,4,5,7] Q (λz23 hm=>?_) (λx22 hm=>?_)
  ·refine bW follows  (DA [0,1,2,3,4,5,6] TK Q (d_b [0,1,2,3,4,5,6] TK Q (λq24 hq24=>?_)));cases q24
   ·replace hm:=JB hq24 hm;iterate 24 (refine DA [0,1,2,3,4,5,6] TK Q ?_)
    refine DT ?_ (by kernel_rfl);refine TN (WT ?_);exact⟨_,[0,1,2,3,4,5,6],(SJ hm),Q,k0,Q⟩
   replace hm:=JA hq24 hm;iterate 3 (refine DA [0,1,2,3,4,5,6] TK Q ?_)
   refine BE hm λr25 hr25 hm=>DX [0,1,2,3,4,5,6] Q Q (RN Q Q (SC (.d _) (SC (bO Q) SN)) (tV hr25)) ?_;iterate 4 (refine DA [0,1,2,3,4,5,6] TK Q ?_)
   refine d_b [0,1,2,3,4,5,6] TK Q (λq26 hq26=>?_);cases q26
   ·replace hm:=JF hq26 hm;iterate 15 (refine DA [0,1,2,3,4,5,6] TK Q ?_)
    refine DT ?_ (by kernel_rfl);refine TN (WT ?_);exact⟨_,[0,1,2,3,4,5,6],(SJ hm),Q,k0,Q⟩
   replace hm:=JT hq26 hm;iterate 5 (refine DA [0,1,2,3,4,5,6] TK Q ?_)
   refine d_b [0,1,2,3,4,5,6] TK Q (λq27 hq27=>?_);cases q27
   ·replace hm:=JF hq27 hm;iterate 9 (refine DA [0,1,2,3,4,5,6] TK Q ?_)
    refine DT ?_ (by kernel_rfl);refine TN (WT ?_);exact⟨_,[0,1,2,3,4,5,6],(SJ hm),Q,k0,Q⟩
   replace hm:=JT hq27 hm;iterate 6 (refine DA [0,1,2,3,4,5,6] TK Q ?_)
   refine BE hm λr28 hr28 hm=>DX [0,1,2,3,4,5,6] Q Q (RN Q Q (SC (.d _) (SC (fG (.cons (.d _) Q (.cons (.d _) Q (.cons (.d _) Q (.cons (.d _) Q (.cons (.d _) Q (.cons (.d _) Q (.cons (.d _) Q (.cons (.d _) Q (.cons (bO Q) Q (.cons (.d _) Q (.cons (.d _) Q (.cons (.d _) Q (.cons (.d _) Q (.cons (.d _) Q .nil))))))))))))))) (SC (bO Q) (SC (.d _) SN)))) (qBT hr28)) ?_;iterate 2 (refine DA [0,1,2,3,4,5,6] TK Q ?_)
   refine DT ?_ (by kernel_rfl);refine TN (WT ?_);exact⟨_,[0,1,2,3,4,5,6],(SJ hm),Q,k0,Q⟩
  refine WN [2,3,4,5,7,54] Q Q ?_;refine TC _ Q (λh29=>?_) (λh29=>?_)
  ·replace hm:=JA h29 hm;refine TS (WT (WN [2,3,4,5,7] Q Q (TB (RS (SA TK Q (SA TK Q (BE hm λr30 hr30 hm=>SX Q Q (RD Q Q Q (rI hr30)) (SA TK Q ?_))))))));refine TN (WN [2,3,4,5,7,9] Q Q (TQ (RS (SA TK Q (SX Q Q (aM TK Q Q Q) (SA TK Q (TN (WN [2,3,4,5,7,9,60] Q Q ?_))))))));refine TC _ Q (λh31=>?_) (λh31=>?_)
   ·replace hm:=JT h31 hm;refine aE (WX (qTM Q (IE hm λv32 hm hz=>?_)));rw [hz21 _ hz] at hm;refine WX (WH (WT ?_));exact⟨_,[0,1,2,3,4,5,6],(SJ hm),Q,k0,Q⟩
   replace hm:=JF h31 hm;refine TS (WT (WN [2,3,4,5,7,9] Q Q (fA (bM follows  (DA [] TK Q (DA [1] TK Q (DA [] TK Q (VE hm λe33 he33 hm=>?_))))))));refine DX [] Q Q (bF TK Q Q Q Q he33) (DA [] TK Q (DX [] Q Q (cX [.tmp 65] TK Q Q nR Q Q Q Q Q) (GE hm λg34 hm=>qX [4,7] _ (.msl 7 3 0 (b20++([e33]:List Step)).length) Q (gZ Q) Q (qG (f:=Step.enc) (xs:=b20) ([e33]:List Step) Q Q Q TK Q nR Q Q Q Q Q Q dD g34) (DA [] TK Q ?_))));refine DT ?_ (by kernel_rfl);refine SA TK Q (TN (WN [2,3,4,5,7,9] Q Q (bW follows  (DA [0] TK Q (DA [] TK Q (VE hm λe35 he35 hm=>DX [] Q Q (bF TK Q Q Q Q he35) (DA [] TK Q ?_)))))));refine BE hm λr36 hr36 hm=>?_;obtain⟨r37,r38⟩:=r36;refine DX [] Q Q (eS Q Q Q (nV hr36)) ?_;iterate 3 (refine DA [] TK Q ?_)
   refine qND 1000012 [6] [(6,.box 125 [.d (.int .i64 r37.el),.d (.int .i64 r37.side)])] (gZ Q) Q (tL TK Q Q Q Q Q Q Q Q Q Q) ?_;refine DT ?_ (by kernel_rfl);refine SA TK Q (TN (WK (WT ?_)));exact⟨_,[0,1,2,3,7,5,6],(SJ hm),Q,k0,Q⟩
  replace hm:=JB h29 hm;refine aE (WX (IE hm λv39 hm hz=>?_));rw [hz21 _ hz] at hm;refine WX (WH (WT ?_));exact⟨_,[0,1,2,3,4,5,6],(SJ hm),Q,k0,Q⟩
 obtain⟨b8,c9,c10⟩:=j;refine WN [2,3,4] Q Q ?_;refine c_frzC 1 8 4 [2,3,4] Q Q Q Q Q Q (by simp) Q Q Q ?_;refine RS (SA TK Q (SA TK Q (SA TK Q (BE hm λr40 hr40 hm=>SX Q Q (RD Q Q Q (rH hr40)) (SA TK Q (SA TK Q (TN (WN [2,3,4] Q Q (RS (SA TK Q (SA TK Q (SA TK Q ?_))))))))))));refine BE hm λr41 hr41 hm=>SX Q Q (RD Q Q Q (mI hr41)) (SA TK Q (SA TK Q (TN (WN [3,4] Q Q (RS (SA TK Q (SA TK Q (TN (WN [4] Q Q ?_)))))))));refine TR ?_;obtain rfl:=OJ hm;exact EndsS.cellR _ TK Q Q Q Q Q (.d _)
theorem tS {p0:Layout} {p1:Step} {r:(List End)} (hm:nU p0 p1=some r):RetD Tryz.prog 194 [p0.enc,p1.enc] (.sl 2 (r.map End.enc)):=by
 refine .of (mv:=λ_=>false) (aG qXQ Tryz.func194 Q Tryz.ntmps194 Q Q (λwX gX=>?_));unfold nU at hm;refine WN [0,1] Q Q (RS (cM 0 Q Q Q (cM 1 Q Q Q (SA TK Q (TN (WN [2,3] Q Q (TQ ?_)))))));refine fM [(20,.d (.bool (((decide (p1.el < (0:Int)))||(decide ((p0.elements.length:Int)≤p1.el))))))] [20] [2,3] Q ?_ ?_
 ·refine TG (SA TK Q (SA TK Q (SA TK Q (SB TK Q (λq1 hq1=>?_)))));cases q1
  ·iterate 4 (refine SA TK Q ?_)
   refine SX Q Q (aM TK Q Q Q) (SA TK Q (SA TK Q (TN (WT ?_))));exact⟨[0,1],Q,k0,bE (aK (aL (by first|(simp [hq1];done)|(simp only [hq1];simp))) Q) Q⟩
  iterate 7 (refine SA TK Q ?_)
  refine TN (WT ?_);exact⟨[0,1],Q,k0,bE (aK (aL (by first|(simp [hq1];done)|(simp only [hq1];simp))) Q) Q⟩
 refine WN [2,3,20] Q Q ?_;refine TC _ Q (λh2=>?_) (λh2=>?_)
 ·replace hm:=JA h2 hm;refine RS (SA TK Q (TN (qGS 4 [some 2] Q (WN [4] Q Q (TR (WR ?_))))));obtain rfl:=OJ hm;exact EndsS.one _ Q (.d _) (.refl _)
 replace hm:=JB h2 hm;refine TS (WT (WN [2,3] Q Q (RS ?_)));iterate 4 (refine SA TK Q ?_)
 refine VE hm λe3 he3 hm=>SX Q Q (bF TK Q Q Q Q he3) (SA TK Q (SA TK Q (SA TK Q (TN (WN [3,5] Q Q (RS ?_))))));iterate 5 (refine SA TK Q ?_)
 refine BE hm λr4 hr4 hm=>?_;obtain⟨r5,r6⟩:=r4;refine SX Q Q (eS Q Q Q (nY hr4)) ?_;iterate 5 (refine SA TK Q ?_)
 refine TN (WN [3,5,7] Q Q (RS (gB (f:=End.enc) 2 125 2 Q Q Q (TN (WN [3,5,7,8] Q Q ?_)))));refine aH hm (λb7=>([(8,.msl 2 2 0 b7.length)]:Fr)) (λb7=>([(2,.flat 125 2 (b7.map End.enc))]:List (Nat×Blk))) [8] [] Q (λz8 hm=>?_) (λb7 hm=>?_)
 ·refine RS (SA TK Q (TN (WN [3,5,7,8,9] Q Q (TB (aO hm (λ(side12,b13)=>([(8,.msl 2 2 0 b13.length),(9,.d (.int .i64 side12))]:Fr)) (λ(side12,b13)=>([(2,.flat 125 2 (b13.map End.enc))]:List (Nat×Blk))) [8,9] [3,5,7] [0,1,2] Q k0 Q Q Q Q Q (λs z14 hm hz14=>?_))))));obtain⟨side12,b13⟩:=s;refine WN [3,5,7,8,9] Q Q (TQ (RS (SA TK Q (SA TK Q (BE hm λr15 hr15 hm=>SX Q Q (RN Q Q (SC (.d _) SN) (wM hr15)) (SA TK Q (TN (WN [3,5,7,8,9,40] Q Q ?_))))))));refine TC _ Q (λh16=>?_) (λh16=>?_)
  ·replace hm:=JT h16 hm;refine TS (WT (WN [3,5,7,8,9] Q Q (TQ (TB ?_))));refine fM [(55,.d (.bool ((r6&&((!(decide (side12=p1.inV)))&&(!(decide (side12=p1.out))))))))] [55] [3,5,7,8,9] Q ?_ ?_
   ·refine TG (SA TK Q (SB TK Q (λq17 hq17=>?_)));cases q17
    ·iterate 11 (refine SA TK Q ?_)
     refine TN (WT ?_);exact⟨[0,1,2],Q,k0,bE (aK (aL (by first|(simp [hq17];done)|(simp only [hq17];simp))) Q) Q⟩
    iterate 5 (refine SA TK Q ?_)
    refine SB TK Q (λq18 hq18=>?_);cases q18
    ·iterate 5 (refine SA TK Q ?_)
     refine TN (WT ?_);exact⟨[0,1,2],Q,k0,bE (aK (aL (by first|(simp [hq17,hq18];done)|(simp only [hq17,hq18];simp))) Q) Q⟩
    iterate 5 (refine SA TK Q ?_)
    refine TN (WT ?_);exact⟨[0,1,2],Q,k0,bE (aK (aL (by first|(simp [hq17,hq18];done)|(simp only [hq17,hq18];simp))) Q) Q⟩
   refine WN [3,5,7,8,9,55] Q Q ?_;refine TC _ Q (λh19=>?_) (λh19=>?_)
   ·replace hm:=JA h19 hm;refine TG ?_;iterate 4 (refine SA TK Q ?_)
    refine SX Q Q (bR Q pD dV Q Q Q Q) (SX Q Q (cX [.tmp 60] TK Q Q dV Q Q Q Q Q) (GE hm λg20 hm=>dM (f:=End.enc) ([(⟨p1.el,side12⟩:End)]:List End) TK Q Q dV Q Q Q Q Q (λh=>absurd h (zQV _)) Q dD g20 Q Q (SA TK Q (TN (WK (WT (WN [3,5,7,8,9] Q Q ?_)))))));refine TG (SA TK Q (GE hm λg21 hm=>SX Q Q (aU Q Q Q Q g21) (SA TK Q (TN (WT ?_)))));exact⟨_,[0,1,2],(SJ hm),Q,k0,Q⟩
   replace hm:=JB h19 hm;refine TS (WK (WT (WN [3,5,7,8,9] Q Q (TG (SA TK Q (GE hm λg22 hm=>SX Q Q (aU Q Q Q Q g22) (SA TK Q ?_)))))));refine TN (WT ?_);exact⟨_,[0,1,2],(SJ hm),Q,k0,Q⟩
  replace hm:=JF h16 hm;refine aE (WX (IE hm λv23 hm hz=>?_));rw [hz14 _ hz] at hm;refine WX (WH (WT ?_));exact⟨_,[0,1,2],(SJ hm),Q,k0,Q⟩
 refine WN [8] Q Q (RS (SA TK Q (SA TK Q (TN (WN [4] Q Q (TR ?_))))));obtain rfl:=OJ hm;exact EndsS.one _ Q (bO Q) (.refl _)
theorem qFY {p0:Layout} {p1:Route} {r:(List End)} (hm:tR p0 p1=some r):RetD Tryz.prog 127 [p0.enc,p1.enc] (.sl 2 (r.map End.enc)):=by
 refine .of (mv:=λ_=>false) (aG qZN Tryz.func127 Q Tryz.ntmps127 Q Q (λwX gX=>?_));unfold tR at hm;refine WN [0,1] Q Q (RS (cM 0 Q Q Q (cM 1 Q Q Q (SA TK Q (TN (WN [2,3] Q Q (RS (gB (f:=End.enc) 2 125 2 Q Q Q ?_))))))));refine TN (WN [2,3,5] Q Q ?_);refine aH hm (λb1=>([(5,.msl 2 2 0 b1.length)]:Fr)) (λb1=>([(2,.flat 125 2 (b1.map End.enc))]:List (Nat×Blk))) [5] [2,3] Q (λz2 hm=>?_) (λb1 hm=>?_)
 ·refine RS (SA TK Q (TN (WN [2,3,5,6] Q Q (TB (aO hm (λ(i6,b7)=>([(5,.msl 2 2 0 b7.length),(6,.d (.int .i64 i6))]:Fr)) (λ(i6,b7)=>([(2,.flat 125 2 (b7.map End.enc))]:List (Nat×Blk))) [5,6] [2,3] [0,1,2] Q k0 Q Q Q Q Q (λs z8 hm hz8=>?_))))));obtain⟨i6,b7⟩:=s;refine WN [2,3,5,6] Q Q (TQ (RS (SA TK Q (SA TK Q (SA TK Q (SX Q Q (aM TK Q Q Q) (SA TK Q (TN (WN [2,3,5,6,12] Q Q ?_)))))))));refine TC _ Q (λh9=>?_) (λh9=>?_)
  ·replace hm:=JT h9 hm;refine TS (WT (WN [2,3,5,6] Q Q (TQ (TB (bW follows  ?_)))));iterate 5 (refine DA [0,1,2] TK Q ?_)
   refine VE hm λe10 he10 hm=>DX [0,1,2] Q Q (bF TK Q Q Q Q he10) (DA [0,1,2] TK Q (BE hm λr11 hr11 hm=>DX [0,1,2] Q Q (RD Q Q Q (tS hr11)) ?_));refine DT ?_ (by kernel_rfl);refine GE hm λg12 hm=>dM (f:=End.enc) r11 TK Q Q dV Q Q Q Q Q (λh=>absurd h (zQV _)) Q dD g12 Q Q (SA TK Q (TN (WK (WT (WN [2,3,5,6] Q Q (TG (SA TK Q ?_)))))));refine GE hm λg13 hm=>SX Q Q (aU Q Q Q Q g13) (SA TK Q (TN (WT ?_)));exact⟨_,[0,1,2],(SJ hm),Q,k0,Q⟩
  replace hm:=JF h9 hm;refine aE (WX (IE hm λv14 hm hz=>?_));rw [hz8 _ hz] at hm;refine WX (WH (WT ?_));exact⟨_,[0,1,2],(SJ hm),Q,k0,Q⟩
 refine WN [2,3,5] Q Q ?_;refine aH hm (λb15=>([(5,.msl 2 2 0 b15.length)]:Fr)) (λb15=>([(2,.flat 125 2 (b15.map End.enc))]:List (Nat×Blk))) [5] [] Q (λz16 hm=>?_) (λb15 hm=>?_)
 ·refine RS (SA TK Q (TN (WN [2,3,5,7] Q Q (TB (aO hm (λ(i20,b21)=>([(5,.msl 2 2 0 b21.length),(7,.d (.int .i64 i20))]:Fr)) (λ(i20,b21)=>([(2,.flat 125 2 (b21.map End.enc))]:List (Nat×Blk))) [5,7] [2,3] [0,1,2] Q k0 Q Q Q Q Q (λs z22 hm hz22=>?_))))));obtain⟨i20,b21⟩:=s;refine WN [2,3,5,7] Q Q (TQ (RS (SA TK Q (SA TK Q (SA TK Q (SX Q Q (aM TK Q Q Q) (SA TK Q (TN (WN [2,3,5,7,28] Q Q ?_)))))))));refine TC _ Q (λh23=>?_) (λh23=>?_)
  ·replace hm:=JT h23 hm;refine TS (WT (WN [2,3,5,7] Q Q (TQ (TB (bW follows  ?_)))));iterate 5 (refine DA [0,1,2] TK Q ?_)
   refine VE hm λe24 he24 hm=>DX [0,1,2] Q Q (bF TK Q Q Q Q he24) (DA [0,1,2] TK Q (BE hm λr25 hr25 hm=>DX [0,1,2] Q Q (RD Q Q Q (tS hr25)) ?_));refine DT ?_ (by kernel_rfl);refine GE hm λg26 hm=>dM (f:=End.enc) r25 TK Q Q dV Q Q Q Q Q (λh=>absurd h (zQV _)) Q dD g26 Q Q (SA TK Q (TN (WK (WT (WN [2,3,5,7] Q Q (TG (SA TK Q ?_)))))));refine GE hm λg27 hm=>SX Q Q (aU Q Q Q Q g27) (SA TK Q (TN (WT ?_)));exact⟨_,[0,1,2],(SJ hm),Q,k0,Q⟩
  replace hm:=JF h23 hm;refine aE (WX (IE hm λv28 hm hz=>?_));rw [hz22 _ hz] at hm;refine WX (WH (WT ?_));exact⟨_,[0,1,2],(SJ hm),Q,k0,Q⟩
 refine WN [5] Q Q (RS (SA TK Q (SA TK Q (TN (WN [4] Q Q (TR ?_))))));obtain rfl:=OJ hm;exact EndsS.one _ Q (bO Q) (.refl _)
theorem yG {p0:(List Step)} {p1:Int} {r:Bool} (hm:sG p0 p1=some r):RetN Tryz.prog 196 [.sl 3 (p0.map Step.enc),.int .i64 p1] (.bool (r)):=by
 refine .unit (aG qXO Tryz.func196 Q Tryz.ntmps196 Q Q (λwX gX=>?_)) Q;unfold sG at hm;refine WN [0,1] Q Q (RS (SA TK Q (TN (WN [0,1] Q Q ?_))));refine bK hm (λ_=>([]:Fr)) (λ_=>([]:List (Nat×Blk))) [] [] Q (λz1 hm hz1=>?_) (λj hm=>?_)
 ·refine RS (SA TK Q (TN (WN [0,1,5] Q Q (TB (aO hm (λi3=>([(5,.d (.int .i64 i3))]:Fr)) (λi3=>([]:List (Nat×Blk))) [5] [0,1] [] Q k0 Q Q Q Q Q (λi3 z4 hm hz4=>WN [0,1,5] Q Q (TQ (RS ?_))))))));refine SA TK Q (SA TK Q (SX Q Q (aM TK Q Q Q) (SA TK Q (TN (WN [0,1,5,9] Q Q ?_)))));refine TC _ Q (λh5=>?_) (λh5=>?_)
  ·replace hm:=JT h5 hm;refine TS (WT (WN [0,1,5] Q Q (TQ (TB (RS (SA TK Q (SA TK Q (VE hm λe6 he6 hm=>SX Q Q (bF TK Q Q Q Q he6) ?_))))))));iterate 4 (refine SA TK Q ?_)
   refine TN (WN [0,1,5,18] Q Q ?_);refine TC _ Q (λh7=>?_) (λh7=>?_)
   ·replace hm:=JT h7 hm;refine RS (SA TK Q (TN (WN [4] Q Q (TR (WB (WR (IE hm λv8 hm hz=>?_)))))));rw [hz4 _ hz] at hm;refine WR (WB (IE hm λv9 hm hz=>?_));rw [hz1 _ hz] at hm;refine WR ?_;obtain rfl:=OJ hm;exact EndsS.one _ Q (.d _) (.refl _)
   replace hm:=JF h7 hm;refine TS (WK (WT (WN [0,1,5] Q Q (TG (SA TK Q (GE hm λg10 hm=>SX Q Q (aU Q Q Q Q g10) (SA TK Q ?_)))))));refine TN (WT ?_);exact⟨_,[],(SJ hm),Q,k0,Q⟩
  replace hm:=JF h5 hm;refine aE (WX (IE hm λv11 hm hz=>?_));rw [hz4 _ hz] at hm;refine WX (WH (WT ?_));exact⟨_,[],(SJ hm),Q,k0,Q⟩
 refine WN [] Q Q (RS (SA TK Q (TN (WN [4] Q Q (TR ?_)))));obtain rfl:=OJ hm;exact EndsS.one _ Q (.d _) (.refl _)
theorem pY {p0:(List Setting)} {p1:Setting} {r:Bool} (hm:oG p0 p1=some r):RetN Tryz.prog 199 [.sl 2 (p0.map Setting.enc),p1.enc] (.bool (r)):=by
 refine .unit (aG qXL Tryz.func199 Q Tryz.ntmps199 Q Q (λwX gX=>?_)) Q;unfold oG at hm;refine WN [0,1] Q Q (RS (cM 0 Q Q Q (SA TK Q (TN (WN [0,3] Q Q ?_)))));refine bK hm (λ_=>([]:Fr)) (λ_=>([]:List (Nat×Blk))) [] [] Q (λz1 hm hz1=>?_) (λj hm=>?_)
 ·refine RS (SA TK Q (TN (WN [0,3,5] Q Q (TB (aO hm (λi3=>([(5,.d (.int .i64 i3))]:Fr)) (λi3=>([]:List (Nat×Blk))) [5] [0,3] [0] Q k0 Q Q Q Q Q (λi3 z4 hm hz4=>WN [0,3,5] Q Q (TQ (RS ?_))))))));refine SA TK Q (SA TK Q (SX Q Q (aM TK Q Q Q) (SA TK Q (TN (WN [0,3,5,9] Q Q ?_)))));refine TC _ Q (λh5=>?_) (λh5=>?_)
  ·replace hm:=JT h5 hm;refine TS (WT (WN [0,3,5] Q Q (TQ (TB (bM follows  ?_)))));iterate 2 (refine DA [0] TK Q ?_)
   refine VE hm λe6 he6 hm=>DX [0] Q Q (bF TK Q Q Q Q he6) ?_;iterate 2 (refine DA [0] TK Q ?_)
   refine GE hm λg7 hm=>DX [0] Q Q (qFK Q Q Q g7.1 g7.2) ?_;refine DT ?_ (by kernel_rfl);refine TN (WN [0,3,5,17] Q Q ?_);refine TC _ Q (λh9=>?_) (λh9=>?_)
   ·replace hm:=JT h9 hm;refine RS (SA TK Q (TN (WN [4] Q Q (TR (WB (WR (IE hm λv10 hm hz=>?_)))))));rw [hz4 _ hz] at hm;refine WR (WB (IE hm λv11 hm hz=>?_));rw [hz1 _ hz] at hm;refine WR ?_;obtain rfl:=OJ hm;exact EndsS.one _ Q (.d _) (.refl _)
   replace hm:=JF h9 hm;refine TS (WK (WT (WN [0,3,5] Q Q (TG (SA TK Q (GE hm λg12 hm=>SX Q Q (aU Q Q Q Q g12) (SA TK Q ?_)))))));refine TN (WT ?_);exact⟨_,[0],(SJ hm),Q,k0,Q⟩
  replace hm:=JF h5 hm;refine aE (WX (IE hm λv13 hm hz=>?_));rw [hz4 _ hz] at hm;refine WX (WH (WT ?_));exact⟨_,[0],(SJ hm),Q,k0,Q⟩
 refine WN [] Q Q (RS (SA TK Q (TN (WN [4] Q Q (TR ?_)))));obtain rfl:=OJ hm;exact EndsS.one _ Q (.d _) (.refl _)
theorem qFX {p0:Route} {p1:Setting} {r:Bool} (hm:tQ p0 p1=some r):RetN Tryz.prog 233 [p0.enc,p1.enc] (.bool (r)):=by
 refine .unit (aG qWH Tryz.func233 Q Tryz.ntmps233 Q Q (λwX gX=>?_)) Q;unfold tQ at hm;refine WN [0,1] Q Q (RS (cM 0 Q Q Q (cM 1 Q Q Q (SA TK Q (TN (WN [2,3] Q Q ?_))))));refine aH hm (λx1=>([(4,.d (.bool (x1)))]:Fr)) (λx1=>([]:List (Nat×Blk))) [4] [] Q (λz2 hm=>?_) (λx1 hm=>?_)
 ·refine TG (SA TK Q (SA TK Q (SA TK Q (BE hm λr3 hr3 hm=>SX Q Q (RN Q Q (SC (.d _) (SC (.d _) SN)) (pY hr3)) (SB TK Q (λq4 hq4=>?_))))));cases q4
  ·replace hm:=JB hq4 hm;refine SA TK Q (SA TK Q (SA TK Q (BE hm λr5 hr5 hm=>SX Q Q (RN Q Q (SC (.d _) (SC (.d _) SN)) (pY hr5)) (SA TK Q (SB TK Q (λq6 hq6=>?_))))));cases q6
   ·replace hm:=JB hq6 hm;refine SA TK Q (SA TK Q (SA TK Q (BE hm λr7 hr7 hm=>SX Q Q (RN Q Q (SC (.d _) (SC (.d _) SN)) (pY hr7)) (SA TK Q (SA TK Q (TN (WT ?_)))))));exact⟨_,[0,1],(SJ hm),Q,k0,Q⟩
   replace hm:=JA hq6 hm;iterate 6 (refine SA TK Q ?_)
   refine TN (WT ?_);exact⟨_,[0,1],(SJ hm),Q,k0,Q⟩
  replace hm:=JA hq4 hm;iterate 12 (refine SA TK Q ?_)
  refine TN (WT ?_);exact⟨_,[0,1],(SJ hm),Q,k0,Q⟩
 refine WN [4] Q Q (TR ?_);obtain rfl:=OJ hm;exact EndsS.one _ Q (.d _) (.refl _)
theorem qLF {p0:Route} {p1:End} {r0:Setting} {r1:Int} {r2:Bool} (hm:vJ p0 p1=some (r0,r1,r2)):Ret Tryz.prog 197 [] (λ_=>false) ([p0.enc,p1.enc].map .d) (.tup ([r0.enc,.int .i64 r1,.bool (r2)].map .d)) []:=by
 refine gN qXN Tryz.func197 Q Tryz.ntmps197 Q Q (λwX gX=>?_);unfold vJ at hm;refine WN [0,1] Q Q (RS (cM 0 Q Q Q (cM 1 Q Q Q (cF 2 Q Q cS Q (SA TK Q (SA TK Q (TN (WN [2,3,4] Q Q (RS ?_)))))))));refine SA TK Q (SA TK Q (SX Q Q (bR Q nK cS Q Q Q Q) (cF 3 Q Q cS Q (SA TK Q (TN (WN [2,3,4,7] Q Q (RS (SA TK Q (SA TK Q (SX Q Q (bR Q nK cS Q Q Q Q) ?_))))))))));refine cF 4 Q Q cS Q (SA TK Q (TN (WN [2,3,4,7,8] Q Q ?_)));refine aH hm (λ(c1,c2)=>([]:Fr)) (λ(c1,c2)=>([(3,.box 148 [.d (.int .i64 p1.el),.d (.int .i64 c1)]),(4,.box 148 [.d (.int .i64 p1.el),.d (.int .i64 c2)])]:List (Nat×Blk))) [] [2,4,7,8] Q (λz3 hm=>?_) (λj hm=>?_)
 ·refine RS (SA TK Q (SA TK Q (SA TK Q (TN (WN [2,3,4,7,8,17] Q Q ?_)))));refine TC _ Q (λh4=>?_) (λh4=>?_)
  ·replace hm:=JT h4 hm;refine RS (SA TK Q (SA TK Q (SX Q Q (bR Q nK cS Q Q Q Q) (SA TK Q (TN (WN [2,3,4,7,8] Q Q (TG (SA TK Q (SA TK Q (SX Q Q (bR Q nK cS Q Q Q Q) ?_))))))))));refine SA TK Q (TN (WT ?_));exact⟨_,[0,1,2,3,4],(SJ hm),Q,k0,Q⟩
  replace hm:=JF h4 hm;refine TS (WT ?_);exact⟨_,[0,1,2,3,4],(SJ hm),Q,k0,Q⟩
 obtain⟨c1,c2⟩:=j;refine WN [2,4,7,8] Q Q (TQ (RS (SA TK Q (SA TK Q (BE hm λr5 hr5 hm=>SX Q Q (RN Q Q (SC (.d _) (SC (.d _) SN)) (qFX hr5)) (TN (WN [4,8,26] Q Q ?_)))))));refine TC _ Q (λh6=>?_) (λh6=>?_)
 ·replace hm:=JA h6 hm;refine RS (SX Q Q (bR Q nK cS Q Q Q Q) (SA TK Q (SA TK Q (SA TK Q (TN (WN [4,5,6] Q Q (TR (WR ?_))))))));obtain⟨rfl,hmj0⟩:=Prod.mk.inj (Option.some.inj hm);obtain⟨rfl,rfl⟩:=Prod.mk.inj (hmj0);exact⟨_,.mk _ (.cons (.agg (TK.lay Q) Q Q Q Q) (.cons (.tmp 5) (.cons (.tmp 6) .nil))) Q,(.cons (.d _) (.refl _) (.cons (.d _) (.refl _) (.cons (.d _) (.refl _) .nil)))⟩
 replace hm:=JB h6 hm;refine TS (WT (WN [4,8] Q Q (RS ?_)));iterate 4 (refine SA TK Q ?_)
 refine TN (WN [4,5,6] Q Q (TR ?_));obtain⟨rfl,hmj0⟩:=Prod.mk.inj (Option.some.inj hm);obtain⟨rfl,rfl⟩:=Prod.mk.inj (hmj0);exact⟨_,.mk _ (.cons (.agg (TK.lay Q) Q Q Q Q) (.cons (.tmp 5) (.cons (.tmp 6) .nil))) Q,(.cons (.d _) (.refl _) (.cons (.d _) (.refl _) (.cons (.d _) (.refl _) .nil)))⟩
theorem qLG {p0:Route} {p1:End} {r0:Setting} {r1:Int} {r2:Bool} (hm:vJ p0 p1=some (r0,r1,r2)):RetT Tryz.prog 197 [p0.enc,p1.enc] [r0.enc,.int .i64 r1,.bool (r2)]:=.of (mv:=λ_=>false) (qLF hm)
theorem qLJ {p0:Int} {p1:Int} {p2:Int} {r0:Int} {r1:Bool} (hm:vK p0 p1 p2=some (r0,r1)):Ret Tryz.prog 198 [] (λ_=>false) ([.int .i64 p0,.int .i64 p1,.int .i64 p2].map .d) (.tup ([.int .i64 r0,.bool (r1)].map .d)) []:=by
 refine gN qXM Tryz.func198 Q Tryz.ntmps198 Q Q (λwX gX=>?_);unfold vK at hm;refine WN [0,1,2] Q Q (RS (SA TK Q (SA TK Q (TN (WN [0,1,2] Q Q ?_)))));refine bK hm (λ_=>([]:Fr)) (λ_=>([]:List (Nat×Blk))) [] [] Q (λz1 hm hz1=>?_) (λj hm=>?_)
 ·refine RS (SA TK Q (TN (WN [0,1,2,8] Q Q (TB (aO hm (λout3=>([(8,.d (.int .i64 out3))]:Fr)) (λout3=>([]:List (Nat×Blk))) [8] [0,1,2] [] Q k0 Q Q Q Q Q (λout3 z4 hm hz4=>WN [0,1,2,8] Q Q (TQ (RS ?_))))))));refine SA TK Q (SA TK Q (TN (WN [0,1,2,8,12] Q Q ?_)));refine TC _ Q (λh5=>?_) (λh5=>?_)
  ·replace hm:=JT h5 hm;refine TS (WT (WN [0,1,2,8] Q Q (TQ (TB (RS (SA TK Q (SA TK Q (SA TK Q (BE hm λr6 hr6 hm=>?_)))))))));obtain⟨r7,r8⟩:=r6;refine SX Q Q (eS Q Q Q (nY hr6)) ?_;iterate 5 (refine SA TK Q ?_)
   refine TN (WN [0,1,2,8,9,10] Q Q ?_);refine fM [(31,.d (.bool ((r8&&((decide (r7=(0:Int)))||(decide (r7=p2)))))))] [31] [0,1,2,8] Q ?_ ?_
   ·refine TG (SA TK Q (SB TK Q (λq9 hq9=>?_)));cases q9
    ·iterate 8 (refine SA TK Q ?_)
     refine TN (WT ?_);exact⟨[],Q,k0,bE (aK (aL (by first|(simp [hq9];done)|(simp only [hq9];simp))) Q) Q⟩
    refine SA TK Q (SA TK Q (SB TK Q (λq10 hq10=>?_)));cases q10
    ·iterate 5 (refine SA TK Q ?_)
     refine TN (WT ?_);exact⟨[],Q,k0,bE (aK (aL (by first|(simp [hq9,hq10];done)|(simp only [hq9,hq10];simp))) Q) Q⟩
    iterate 5 (refine SA TK Q ?_)
    refine TN (WT ?_);exact⟨[],Q,k0,bE (aK (aL (by first|(simp [hq9,hq10];done)|(simp only [hq9,hq10];simp))) Q) Q⟩
   refine WN [0,1,2,8,31] Q Q ?_;refine TC _ Q (λh11=>?_) (λh11=>?_)
   ·replace hm:=JA h11 hm;refine RS (SA TK Q (SA TK Q (SA TK Q (TN (WN [6,7] Q Q (TR (WB (WR (IE hm λv12 hm hz=>?_)))))))));rw [hz4 _ hz] at hm;refine WR (WB (IE hm λv13 hm hz=>?_));rw [hz1 _ hz] at hm;refine WR ?_;obtain⟨rfl,rfl⟩:=Prod.mk.inj (Option.some.inj hm);exact EndsT.two Q (.d _) (.refl _) (.d _) (.refl _)
   replace hm:=JB h11 hm;refine TS (WK (WT (WN [0,1,2,8] Q Q (TG (SA TK Q (GE hm λg14 hm=>SX Q Q (aU Q Q Q Q g14) (SA TK Q ?_)))))));refine TN (WT ?_);exact⟨_,[],(SJ hm),Q,k0,Q⟩
  replace hm:=JF h5 hm;refine aE (WX (IE hm λv15 hm hz=>?_));rw [hz4 _ hz] at hm;refine WX (WH (WT ?_));exact⟨_,[],(SJ hm),Q,k0,Q⟩
 refine WN [] Q Q (RS (SA TK Q (SA TK Q (TN (WN [6,7] Q Q (TR ?_))))));obtain⟨rfl,rfl⟩:=Prod.mk.inj (Option.some.inj hm);exact EndsT.two Q (.d _) (.refl _) (.d _) (.refl _)
theorem qLK {p0:Int} {p1:Int} {p2:Int} {r0:Int} {r1:Bool} (hm:vK p0 p1 p2=some (r0,r1)):RetT Tryz.prog 198 [.int .i64 p0,.int .i64 p1,.int .i64 p2] [.int .i64 r0,.bool (r1)]:=.of (mv:=λ_=>false) (qLJ hm)
theorem qDQ {p0:Layout} {p1:Route} {p2:End} {r0:Setting} {r1:Int} {r2:Bool} (hm:sH p0 p1 p2=some (r0,r1,r2)):Ret Tryz.prog 128 [] (λ_=>false) ([p0.enc,p1.enc,p2.enc].map .d) (.tup ([r0.enc,.int .i64 r1,.bool (r2)].map .d)) []:=by
 refine gN qZM Tryz.func128 Q Tryz.ntmps128 Q Q (λwX gX=>?_);unfold sH at hm;refine WN [0,1,2] Q Q (RS (cM 0 Q Q Q (cM 1 Q Q Q (cM 2 Q Q Q (cF 3 Q Q cS Q (SA TK Q (SA TK Q (TN (WN [3,4,5,6] Q Q ?_)))))))));refine bK hm (λ(c1,c2)=>([]:Fr)) (λ(c1,c2)=>([(2,.box 125 [.d (.int .i64 c1),.d (.int .i64 c2)])]:List (Nat×Blk))) [] [6] Q (λz3 hm hz3=>?_) (λj hm=>?_)
 ·refine RS (SA TK Q (TN (WN [3,4,5,6,9] Q Q (TB (aO hm (λ(n8,c9,c10)=>([(9,.d (.int .i64 n8))]:Fr)) (λ(n8,c9,c10)=>([(2,.box 125 [.d (.int .i64 c9),.d (.int .i64 c10)])]:List (Nat×Blk))) [9] [3,4,5,6] [0,1,2,3] Q k0 Q Q Q Q Q (λs z11 hm hz11=>?_))))));obtain⟨n8,c9,c10⟩:=s;refine WN [3,4,5,6,9] Q Q (TQ (RS (SA TK Q (SA TK Q (TN (WN [3,4,5,6,9,16] Q Q ?_))))));refine TC _ Q (λh12=>?_) (λh12=>?_)
  ·replace hm:=JT h12 hm;refine TS (WT (WN [3,4,5,6,9] Q Q (TQ (TB (RS (SA TK Q (SA TK Q (BE hm λr13 hr13 hm=>?_))))))));obtain⟨r14,r15⟩:=r13;refine SX Q Q (eS Q Q Q (jV hr13)) (SA TK Q (SA TK Q (SA TK Q (cF 4 Q Q dV Q (SA TK Q (SA TK Q (TN (WN [3,4,5,6,9,10,11] Q Q (TQ (RS (SA TK Q (SA TK Q ?_))))))))))));refine TN (WN [3,4,5,6,9,10,26] Q Q ?_);refine TC _ Q (λh16=>?_) (λh16=>?_)
   ·replace hm:=JA h16 hm;refine RS (SX Q Q (bR Q nK cS Q Q Q Q) (SA TK Q (SA TK Q (SA TK Q (TN (WN [6,7,8] Q Q (TR (WR (WB (WR ?_))))))))));refine IE hm λv17 hm hz=>?_;rw [hz11 _ hz] at hm;refine WR (WB (IE hm λv18 hm hz=>?_));rw [hz3 _ hz] at hm;refine WR ?_;obtain⟨rfl,hmj0⟩:=Prod.mk.inj (Option.some.inj hm);obtain⟨rfl,rfl⟩:=Prod.mk.inj (hmj0);exact⟨_,.mk _ (.cons (.agg (TK.lay Q) Q Q Q Q) (.cons (.tmp 7) (.cons (.tmp 8) .nil))) Q,(.cons (.d _) (.refl _) (.cons (.d _) (.refl _) (.cons (.d _) (.refl _) .nil)))⟩
   replace hm:=JB h16 hm;refine TS (WT (WN [3,4,5,6,9,10] Q Q (RS (SA TK Q (SA TK Q (BE hm λr19 hr19 hm=>SX Q Q (RN Q Q (SC (.d _) (SC (.d _) SN)) (tZ hr19)) (SA TK Q (TN ?_))))))));refine WN [3,4,5,6,9,10,12] Q Q (TQ (RS (SA TK Q (SA TK Q (TN (WN [3,4,5,6,9,10,12,32] Q Q ?_))))));refine TC _ Q (λh20=>?_) (λh20=>?_)
   ·replace hm:=JT h20 hm;refine RS (SX Q Q (bR Q nK cS Q Q Q Q) ?_);iterate 4 (refine SA TK Q ?_)
    refine TN (WN [6,7,8] Q Q (TR (WR (WB (WR (IE hm λv21 hm hz=>?_))))));rw [hz11 _ hz] at hm;refine WR (WB (IE hm λv22 hm hz=>?_));rw [hz3 _ hz] at hm;refine WR ?_;obtain⟨rfl,hmj0⟩:=Prod.mk.inj (Option.some.inj hm);obtain⟨rfl,rfl⟩:=Prod.mk.inj (hmj0);exact⟨_,.mk _ (.cons (.agg (TK.lay Q) Q Q Q Q) (.cons (.tmp 7) (.cons (.tmp 8) .nil))) Q,(.cons (.d _) (.refl _) (.cons (.d _) (.refl _) (.cons (.d _) (.refl _) .nil)))⟩
   replace hm:=JF h20 hm;refine TS (WT (WN [3,4,5,6,9,10] Q Q (TQ ?_)));refine aH hm (λx23=>([(46,.d (.bool (x23)))]:Fr)) (λx23=>([]:List (Nat×Blk))) [46] [3,4,5,6,9,10] Q (λz24 hm=>?_) (λx23 hm=>?_)
   ·refine TG ?_;iterate 4 (refine SA TK Q ?_)
    refine BE hm λr25 hr25 hm=>SX Q Q (RN Q Q (SC (.d _) (SC (.d _) SN)) (yG hr25)) (SB TK Q (λq26 hq26=>?_));cases q26
    ·replace hm:=JB hq26 hm;iterate 4 (refine SA TK Q ?_)
     refine BE hm λr27 hr27 hm=>SX Q Q (RN Q Q (SC (.d _) (SC (.d _) SN)) (yG hr27)) (SA TK Q (TN (WT ?_)));exact⟨_,[0,1,2,3,4],(SJ hm),Q,k0,Q⟩
    replace hm:=JA hq26 hm;iterate 6 (refine SA TK Q ?_)
    refine TN (WT ?_);exact⟨_,[0,1,2,3,4],(SJ hm),Q,k0,Q⟩
   refine WN [3,4,5,6,9,10,46] Q Q ?_;refine TC _ Q (λh28=>?_) (λh28=>?_)
   ·replace hm:=JA h28 hm;refine RS (SX Q Q (bR Q nK cS Q Q Q Q) (SA TK Q (SA TK Q (SA TK Q (TN (WN [6,7,8] Q Q (TR (WR (WB (WR ?_))))))))));refine IE hm λv29 hm hz=>?_;rw [hz11 _ hz] at hm;refine WR (WB (IE hm λv30 hm hz=>?_));rw [hz3 _ hz] at hm;refine WR ?_;obtain⟨rfl,hmj0⟩:=Prod.mk.inj (Option.some.inj hm);obtain⟨rfl,rfl⟩:=Prod.mk.inj (hmj0);exact⟨_,.mk _ (.cons (.agg (TK.lay Q) Q Q Q Q) (.cons (.tmp 7) (.cons (.tmp 8) .nil))) Q,(.cons (.d _) (.refl _) (.cons (.d _) (.refl _) (.cons (.d _) (.refl _) .nil)))⟩
   replace hm:=JB h28 hm;refine TS (WT (WN [3,4,5,6,9,10] Q Q (TQ ?_)));refine aH hm (λx31=>([(73,.d (.bool (x31)))]:Fr)) (λx31=>([]:List (Nat×Blk))) [73] [3,4,5,6,9,10] Q (λz32 hm=>?_) (λx31 hm=>?_)
   ·refine TG (SA TK Q (SA TK Q (SA TK Q (SB TK Q (λq33 hq33=>?_)))));cases q33
    ·replace hm:=JF hq33 hm;iterate 4 (refine SA TK Q ?_)
     refine SX Q Q (aM TK Q Q Q) (SA TK Q (SA TK Q (SB TK Q (λq34 hq34=>?_))));cases q34
     ·replace hm:=JF hq34 hm;iterate 4 (refine SA TK Q ?_)
      refine VE hm λe35 he35 hm=>SX Q Q (bF TK Q Q Q Q he35) (SA TK Q (SA TK Q (SA TK Q (SB TK Q (λq36 hq36=>?_)))));cases q36
      ·replace hm:=JF hq36 hm;iterate 5 (refine SA TK Q ?_)
       refine TN (WT ?_);exact⟨_,[0,1,2,3,4],(SJ hm),Q,k0,Q⟩
      replace hm:=JT hq36 hm;iterate 5 (refine SA TK Q ?_)
      refine TN (WT ?_);exact⟨_,[0,1,2,3,4],(SJ hm),Q,k0,Q⟩
     replace hm:=JT hq34 hm;iterate 14 (refine SA TK Q ?_)
     refine TN (WT ?_);exact⟨_,[0,1,2,3,4],(SJ hm),Q,k0,Q⟩
    replace hm:=JT hq33 hm;iterate 22 (refine SA TK Q ?_)
    refine TN (WT ?_);exact⟨_,[0,1,2,3,4],(SJ hm),Q,k0,Q⟩
   refine WN [3,4,5,6,9,10,73] Q Q ?_;refine TC _ Q (λh37=>?_) (λh37=>?_)
   ·replace hm:=JA h37 hm;refine RS (SX Q Q (bR Q nK cS Q Q Q Q) (SA TK Q (SA TK Q (SA TK Q (TN (WN [6,7,8] Q Q (TR (WR (WB (WR ?_))))))))));refine IE hm λv38 hm hz=>?_;rw [hz11 _ hz] at hm;refine WR (WB (IE hm λv39 hm hz=>?_));rw [hz3 _ hz] at hm;refine WR ?_;obtain⟨rfl,hmj0⟩:=Prod.mk.inj (Option.some.inj hm);obtain⟨rfl,rfl⟩:=Prod.mk.inj (hmj0);exact⟨_,.mk _ (.cons (.agg (TK.lay Q) Q Q Q Q) (.cons (.tmp 7) (.cons (.tmp 8) .nil))) Q,(.cons (.d _) (.refl _) (.cons (.d _) (.refl _) (.cons (.d _) (.refl _) .nil)))⟩
   replace hm:=JB h37 hm;refine TS (WT (WN [3,4,5,6,9,10] Q Q (TQ (RS ?_))));iterate 4 (refine SA TK Q ?_)
   refine VE hm λe40 he40 hm=>SX Q Q (bF TK Q Q Q Q he40) (SA TK Q (SA TK Q (SA TK Q (TN (WN [3,4,5,6,9,10,82] Q Q ?_)))));refine TC _ Q (λh41=>?_) (λh41=>?_)
   ·replace hm:=JT h41 hm;refine RS (SA TK Q (SA TK Q (BE hm λr42 hr42 hm=>?_)));obtain⟨r43,r44,r45⟩:=r42;refine SX Q Q (eS Q Q Q (qLG hr42)) ?_;iterate 6 (refine SA TK Q ?_)
    refine TN (WN [6,7,8] Q Q (TR (WR (WB (WR (IE hm λv46 hm hz=>?_))))));rw [hz11 _ hz] at hm;refine WR (WB (IE hm λv47 hm hz=>?_));rw [hz3 _ hz] at hm;refine WR ?_;obtain⟨rfl,hmj0⟩:=Prod.mk.inj (Option.some.inj hm);obtain⟨rfl,rfl⟩:=Prod.mk.inj (hmj0);exact⟨_,.mk _ (.cons (.agg (TK.lay Q) Q Q Q Q) (.cons (.tmp 7) (.cons (.tmp 8) .nil))) Q,(.cons (.d _) (.refl _) (.cons (.d _) (.refl _) (.cons (.d _) (.refl _) .nil)))⟩
   replace hm:=JF h41 hm;refine TS (WT (WN [3,4,5,6,9,10] Q Q (bM follows  ?_)));iterate 4 (refine DA [0,1,2,3,4] TK Q ?_)
   refine VE hm λe48 he48 hm=>DX [0,1,2,3,4] Q Q (bF TK Q Q Q Q he48) ?_;iterate 4 (refine DA [0,1,2,3,4] TK Q ?_)
   refine BE hm λr49 hr49 hm=>?_;obtain⟨r50,r51⟩:=r49;refine DX [0,1,2,3,4] Q Q (eS Q Q Q (qLK hr49)) ?_;iterate 4 (refine DA [0,1,2,3,4] TK Q ?_)
   refine DT ?_ (by kernel_rfl);refine SA TK Q (TN (WN [3,4,5,6,9,10,13] Q Q (TG (SA TK Q (SA TK Q (SA TK Q (SX Q Q (bR Q pD dV Q Q Q Q) (SA TK Q (TN (WK ?_))))))))));refine WT (WN [3,4,5,6,9] Q Q (TG (SA TK Q (GE hm λg52 hm=>SX Q Q (aU Q Q Q Q g52) (SA TK Q (TN (WT ?_)))))));exact⟨_,[0,1,2,3],(SJ hm),Q,k0,Q⟩
  replace hm:=JF h12 hm;refine aE (WX (IE hm λv53 hm hz=>?_));rw [hz11 _ hz] at hm;refine WX (WH (WT ?_));exact⟨_,[0,1,2,3],(SJ hm),Q,k0,Q⟩
 obtain⟨c1,c2⟩:=j;refine WN [6] Q Q (RS (SX Q Q (bR Q nK cS Q Q Q Q) (SA TK Q (SA TK Q (SA TK Q (TN (WN [6,7,8] Q Q (TR ?_))))))));obtain⟨rfl,hmj0⟩:=Prod.mk.inj (Option.some.inj hm);obtain⟨rfl,rfl⟩:=Prod.mk.inj (hmj0);exact⟨_,.mk _ (.cons (.agg (TK.lay Q) Q Q Q Q) (.cons (.tmp 7) (.cons (.tmp 8) .nil))) Q,(.cons (.d _) (.refl _) (.cons (.d _) (.refl _) (.cons (.d _) (.refl _) .nil)))⟩
theorem qLE {p0:(List Setting)} {p1:Setting} {r:(List Setting)} (hm:zZ p0 p1=some r):RetD Tryz.prog 129 [.sl 2 (p0.map Setting.enc),p1.enc] (.sl 2 (r.map Setting.enc)):=by
 refine .of (mv:=λ_=>false) (aG qZL Tryz.func129 Q Tryz.ntmps129 Q Q (λwX gX=>?_));unfold zZ at hm;refine WN [0,1] Q Q (RS (cM 0 Q Q Q (SA TK Q (TN (WN [0,3] Q Q (TQ (RS (SA TK Q (SA TK Q ?_)))))))));refine BE hm λr1 hr1 hm=>SX Q Q (RN Q Q (SC (.d _) (SC (.d _) SN)) (pY hr1)) (TN (WN [0,3,10] Q Q ?_));refine TC _ Q (λh2=>?_) (λh2=>?_)
 ·replace hm:=JA h2 hm;refine RS (SA TK Q (SA TK Q (TN (WN [4] Q Q (TR (WR ?_))))));obtain rfl:=OJ hm;exact EndsS.one _ Q (.d _) (.refl _)
 replace hm:=JB h2 hm;refine TS (WT (WN [0,3] Q Q (RS (gB (f:=Setting.enc) 1 148 2 Q Q Q (TN (WN [0,3,5] Q Q (RS (SA TK Q ?_))))))));refine TN (WN [0,3,5,6] Q Q ?_);refine aH hm (λ(done3,b4)=>([(5,.msl 1 2 0 b4.length),(6,.d (.bool (done3)))]:Fr)) (λ(done3,b4)=>([(1,.flat 148 2 (b4.map Setting.enc))]:List (Nat×Blk))) [5,6] [3] Q (λz5 hm=>?_) (λj hm=>?_)
 ·refine RS (SA TK Q (TN (WN [0,3,5,6,7] Q Q (TB (aO hm (λ(done11,i12,b13)=>([(5,.msl 1 2 0 b13.length),(6,.d (.bool (done11))),(7,.d (.int .i64 i12))]:Fr)) (λ(done11,i12,b13)=>([(1,.flat 148 2 (b13.map Setting.enc))]:List (Nat×Blk))) [5,6,7] [0,3] [0,1] Q k0 Q Q Q Q Q (λs z14 hm hz14=>?_))))));obtain⟨done11,i12,b13⟩:=s;refine WN [0,3,5,6,7] Q Q (TQ (RS (SA TK Q (SA TK Q (SX Q Q (aM TK Q Q Q) (SA TK Q (TN (WN [0,3,5,6,7,15] Q Q ?_))))))));refine TC _ Q (λh15=>?_) (λh15=>?_)
  ·replace hm:=JT h15 hm;refine TS (WT (WN [0,3,5,6,7] Q Q (TQ (TB ?_))));refine aH hm (λ(done16,b17)=>([(5,.msl 1 2 0 b17.length),(6,.d (.bool (done16)))]:Fr)) (λ(done16,b17)=>([(1,.flat 148 2 (b17.map Setting.enc))]:List (Nat×Blk))) [5,6] [0,3,7] Q (λz18 hm=>?_) (λj hm=>?_)
   ·refine aH hm (λx19=>([(29,.d (.bool (x19)))]:Fr)) (λx19=>([]:List (Nat×Blk))) [29] [0,3,5,6,7] Q (λz20 hm=>?_) (λx19 hm=>?_)
    ·refine bW follows  ?_;iterate 2 (refine DA [0,1] TK Q ?_)
     refine d_b [0,1] TK Q (λq21 hq21=>?_);cases q21
     ·replace hm:=JB hq21 hm;iterate 9 (refine DA [0,1] TK Q ?_)
      refine DT ?_ (by kernel_rfl);refine TN (WT ?_);exact⟨_,[0,1],(SJ hm),Q,k0,Q⟩
     replace hm:=JA hq21 hm;iterate 2 (refine DA [0,1] TK Q ?_)
     refine VE hm λe22 he22 hm=>DX [0,1] Q Q (bF TK Q Q Q Q he22) ?_;iterate 6 (refine DA [0,1] TK Q ?_)
     refine DT ?_ (by kernel_rfl);refine TN (WT ?_);exact⟨_,[0,1],(SJ hm),Q,k0,Q⟩
    refine WN [0,3,5,6,7,29] Q Q ?_;refine TC _ Q (λh23=>?_) (λh23=>?_)
    ·replace hm:=JA h23 hm;refine RS (SA TK Q (SA TK Q (SX Q Q (cX [.tmp 31] TK Q Q cS Q Q Q Q Q) (GE hm λg24 hm=>dM (f:=Setting.enc) ([p1]:List Setting) TK Q Q cS Q Q Q Q Q (λh=>absurd h (zQV _)) Q dD g24 Q Q (SA TK Q (TN (WN [0,3,5,7] Q Q (TG ?_))))))));refine SA TK Q (TN (WT ?_));exact⟨_,[0,1],(SJ hm),Q,k0,Q⟩
    replace hm:=JB h23 hm;refine TS (WT ?_);exact⟨_,[0,1],(SJ hm),Q,k0,Q⟩
   obtain⟨done16,b17⟩:=j;refine WN [0,3,5,6,7] Q Q (TG (SA TK Q (SA TK Q (SA TK Q (VE hm λe25 he25 hm=>SX Q Q (bF TK Q Q Q Q he25) (SA TK Q (SX Q Q (cX [.tmp 38] TK Q Q cS Q Q Q Q Q) (GE hm λg26 hm=>dM (f:=Setting.enc) ([e25]:List Setting) TK Q Q cS Q Q Q Q Q (λh=>absurd h (zQV _)) Q dD g26 Q Q ?_))))))));refine SA TK Q (TN (WK (WT (WN [0,3,5,6,7] Q Q (TG (SA TK Q (GE hm λg27 hm=>SX Q Q (aU Q Q Q Q g27) ?_)))))));refine SA TK Q (TN (WT ?_));exact⟨_,[0,1],(SJ hm),Q,k0,Q⟩
  replace hm:=JF h15 hm;refine aE (WX (IE hm λv28 hm hz=>?_));rw [hz14 _ hz] at hm;refine WX (WH (WT ?_));exact⟨_,[0,1],(SJ hm),Q,k0,Q⟩
 obtain⟨done3,b4⟩:=j;refine WN [3,5,6] Q Q (TQ (RS (SA TK Q (SA TK Q (TN (WN [3,5,42] Q Q ?_))))));refine TC _ Q (λh29=>?_) (λh29=>?_)
 ·replace hm:=JA h29 hm;refine TG (SA TK Q (SA TK Q (SX Q Q (cX [.tmp 44] TK Q Q cS Q Q Q Q Q) (GE hm λg30 hm=>dM (f:=Setting.enc) ([p1]:List Setting) TK Q Q cS Q Q Q Q Q (λh=>absurd h (zQV _)) Q dD g30 Q Q (SA TK Q (TN (WT (WN [5] Q Q ?_))))))));refine RS (SA TK Q (SA TK Q (TN (WN [4] Q Q (TR ?_)))));obtain rfl:=OJ hm;exact EndsS.one _ Q (bO Q) (.refl _)
 replace hm:=JB h29 hm;refine TS (WT (WN [5] Q Q (RS (SA TK Q (SA TK Q (TN (WN [4] Q Q (TR ?_))))))));obtain rfl:=OJ hm;exact EndsS.one _ Q (bO Q) (.refl _)
theorem qLL {p0:(List Int)} {p1:Int} {r:Bool} (hm:qAD p0 p1=some r):RetN Tryz.prog 77 [.sl 1 (p0.map (D.int .i64)),.int .i64 p1] (.bool (r)):=by
 refine .unit (aG zDN Tryz.func77 Q Tryz.ntmps77 Q Q (λwX gX=>?_)) Q;unfold qAD at hm;refine WN [0,1] Q Q (RS (SA TK Q (TN (WN [0,1] Q Q ?_))));refine bK hm (λ_=>([]:Fr)) (λ_=>([]:List (Nat×Blk))) [] [] Q (λz1 hm hz1=>?_) (λj hm=>?_)
 ·refine RS (SA TK Q (TN (WN [0,1,5] Q Q (TB (aO hm (λi3=>([(5,.d (.int .i64 i3))]:Fr)) (λi3=>([]:List (Nat×Blk))) [5] [0,1] [] Q k0 Q Q Q Q Q (λi3 z4 hm hz4=>WN [0,1,5] Q Q (TQ (RS ?_))))))));refine SA TK Q (SA TK Q (SX Q Q (aM TK Q Q Q) (SA TK Q (TN (WN [0,1,5,9] Q Q ?_)))));refine TC _ Q (λh5=>?_) (λh5=>?_)
  ·replace hm:=JT h5 hm;refine TS (WT (WN [0,1,5] Q Q (TQ (TB (RS (SA TK Q (SA TK Q (VE hm λe6 he6 hm=>SX Q Q (bF TK Q Q Q Q he6) ?_))))))));refine SA TK Q (SA TK Q (SA TK Q (TN (WN [0,1,5,17] Q Q ?_))));refine TC _ Q (λh7=>?_) (λh7=>?_)
   ·replace hm:=JT h7 hm;refine RS (SA TK Q (TN (WN [4] Q Q (TR (WB (WR (IE hm λv8 hm hz=>?_)))))));rw [hz4 _ hz] at hm;refine WR (WB (IE hm λv9 hm hz=>?_));rw [hz1 _ hz] at hm;refine WR ?_;obtain rfl:=OJ hm;exact EndsS.one _ Q (.d _) (.refl _)
   replace hm:=JF h7 hm;refine TS (WK (WT (WN [0,1,5] Q Q (TG (SA TK Q (GE hm λg10 hm=>SX Q Q (aU Q Q Q Q g10) (SA TK Q ?_)))))));refine TN (WT ?_);exact⟨_,[],(SJ hm),Q,k0,Q⟩
  replace hm:=JF h5 hm;refine aE (WX (IE hm λv11 hm hz=>?_));rw [hz4 _ hz] at hm;refine WX (WH (WT ?_));exact⟨_,[],(SJ hm),Q,k0,Q⟩
 refine WN [] Q Q (RS (SA TK Q (TN (WN [4] Q Q (TR ?_)))));obtain rfl:=OJ hm;exact EndsS.one _ Q (.d _) (.refl _)
theorem uB {p0:(List Int)} {p1:Int} {r:(List Int)} (hm:nZ p0 p1=some r):RetD Tryz.prog 201 [.sl 1 (p0.map (D.int .i64)),.int .i64 p1] (.sl 1 (r.map (D.int .i64))):=by
 refine .of (mv:=λ_=>false) (aG qXJ Tryz.func201 Q Tryz.ntmps201 Q Q (λwX gX=>?_));unfold nZ at hm;refine WN [0,1] Q Q (RS (SA TK Q (TN (WN [0,1] Q Q (TQ (RS (SA TK Q (SA TK Q (BE hm λr1 hr1 hm=>?_)))))))));refine SX Q Q (RN Q Q (SC (.d _) (SC (.d _) SN)) (qLL hr1)) (TN (WN [0,1,10] Q Q ?_));refine TC _ Q (λh2=>?_) (λh2=>?_)
 ·replace hm:=JA h2 hm;refine RS (SA TK Q (SA TK Q (TN (WN [4] Q Q (TR (WR ?_))))));obtain rfl:=OJ hm;exact EndsS.one _ Q (.d _) (.refl _)
 replace hm:=JB h2 hm;refine TS (WT (WN [0,1] Q Q (RS (gB (f:=(D.int .i64)) 0 3 1 Q Q Q (TN (WN [0,1,5] Q Q (RS (SA TK Q ?_))))))));refine TN (WN [0,1,5,6] Q Q ?_);refine aH hm (λ(done3,b4)=>([(5,.msl 0 1 0 b4.length),(6,.d (.bool (done3)))]:Fr)) (λ(done3,b4)=>([(0,.flat 3 1 (b4.map (D.int .i64)))]:List (Nat×Blk))) [5,6] [1] Q (λz5 hm=>?_) (λj hm=>?_)
 ·refine RS (SA TK Q (TN (WN [0,1,5,6,7] Q Q (TB (aO hm (λ(done11,i12,b13)=>([(5,.msl 0 1 0 b13.length),(6,.d (.bool (done11))),(7,.d (.int .i64 i12))]:Fr)) (λ(done11,i12,b13)=>([(0,.flat 3 1 (b13.map (D.int .i64)))]:List (Nat×Blk))) [5,6,7] [0,1] [0] Q k0 Q Q Q Q Q (λs z14 hm hz14=>?_))))));obtain⟨done11,i12,b13⟩:=s;refine WN [0,1,5,6,7] Q Q (TQ (RS (SA TK Q (SA TK Q (SX Q Q (aM TK Q Q Q) (SA TK Q (TN (WN [0,1,5,6,7,15] Q Q ?_))))))));refine TC _ Q (λh15=>?_) (λh15=>?_)
  ·replace hm:=JT h15 hm;refine TS (WT (WN [0,1,5,6,7] Q Q (TQ (TB ?_))));refine aH hm (λ(done16,b17)=>([(5,.msl 0 1 0 b17.length),(6,.d (.bool (done16)))]:Fr)) (λ(done16,b17)=>([(0,.flat 3 1 (b17.map (D.int .i64)))]:List (Nat×Blk))) [5,6] [0,1,7] Q (λz18 hm=>?_) (λj hm=>?_)
   ·refine aH hm (λx19=>([(27,.d (.bool (x19)))]:Fr)) (λx19=>([]:List (Nat×Blk))) [27] [0,1,5,6,7] Q (λz20 hm=>?_) (λx19 hm=>?_)
    ·refine TG (SA TK Q (SA TK Q (SB TK Q (λq21 hq21=>?_))));cases q21
     ·replace hm:=JB hq21 hm;iterate 7 (refine SA TK Q ?_)
      refine TN (WT ?_);exact⟨_,[0],(SJ hm),Q,k0,Q⟩
     replace hm:=JA hq21 hm;refine SA TK Q (SA TK Q (VE hm λe22 he22 hm=>SX Q Q (bF TK Q Q Q Q he22) ?_));iterate 4 (refine SA TK Q ?_)
     refine TN (WT ?_);exact⟨_,[0],(SJ hm),Q,k0,Q⟩
    refine WN [0,1,5,6,7,27] Q Q ?_;refine TC _ Q (λh23=>?_) (λh23=>?_)
    ·replace hm:=JA h23 hm;refine RS (SA TK Q (SA TK Q (SX Q Q (cX [.tmp 29] TK Q Q dY Q Q Q Q Q) (GE hm λg24 hm=>dM (f:=(D.int .i64)) ([p1]:List Int) TK Q Q dY Q Q Q Q Q (λh=>absurd h (zQV _)) Q dD g24 Q Q (SA TK Q (TN (WN [0,1,5,7] Q Q (TG ?_))))))));refine SA TK Q (TN (WT ?_));exact⟨_,[0],(SJ hm),Q,k0,Q⟩
    replace hm:=JB h23 hm;refine TS (WT ?_);exact⟨_,[0],(SJ hm),Q,k0,Q⟩
   obtain⟨done16,b17⟩:=j;refine WN [0,1,5,6,7] Q Q (TG (SA TK Q (SA TK Q (SA TK Q (VE hm λe25 he25 hm=>SX Q Q (bF TK Q Q Q Q he25) (SA TK Q (SX Q Q (cX [.tmp 36] TK Q Q dY Q Q Q Q Q) (GE hm λg26 hm=>dM (f:=(D.int .i64)) ([e25]:List Int) TK Q Q dY Q Q Q Q Q (λh=>absurd h (zQV _)) Q dD g26 Q Q ?_))))))));refine SA TK Q (TN (WK (WT (WN [0,1,5,6,7] Q Q (TG (SA TK Q (GE hm λg27 hm=>SX Q Q (aU Q Q Q Q g27) ?_)))))));refine SA TK Q (TN (WT ?_));exact⟨_,[0],(SJ hm),Q,k0,Q⟩
  replace hm:=JF h15 hm;refine aE (WX (IE hm λv28 hm hz=>?_));rw [hz14 _ hz] at hm;refine WX (WH (WT ?_));exact⟨_,[0],(SJ hm),Q,k0,Q⟩
 obtain⟨done3,b4⟩:=j;refine WN [1,5,6] Q Q (TQ (RS (SA TK Q (SA TK Q (TN (WN [1,5,40] Q Q ?_))))));refine TC _ Q (λh29=>?_) (λh29=>?_)
 ·replace hm:=JA h29 hm;refine TG (SA TK Q (SA TK Q (SX Q Q (cX [.tmp 42] TK Q Q dY Q Q Q Q Q) (GE hm λg30 hm=>dM (f:=(D.int .i64)) ([p1]:List Int) TK Q Q dY Q Q Q Q Q (λh=>absurd h (zQV _)) Q dD g30 Q Q (SA TK Q (TN (WT (WN [5] Q Q ?_))))))));refine RS (SA TK Q (SA TK Q (TN (WN [4] Q Q (TR ?_)))));obtain rfl:=OJ hm;exact EndsS.one _ Q (bO Q) (.refl _)
 replace hm:=JB h29 hm;refine TS (WT (WN [5] Q Q (RS (SA TK Q (SA TK Q (TN (WN [4] Q Q (TR ?_))))))));obtain rfl:=OJ hm;exact EndsS.one _ Q (bO Q) (.refl _)
theorem qIV {p0:(List Int)} {r:(List Int)} (hm:xI p0=some r):RetD Tryz.prog 200 [.sl 1 (p0.map (D.int .i64))] (.sl 1 (r.map (D.int .i64))):=by
 refine .of (mv:=λ_=>false) (aG qXK Tryz.func200 Q Tryz.ntmps200 Q Q (λwX gX=>?_));unfold xI at hm;refine WN [0] Q Q (RS (SA TK Q (TN (WN [0] Q Q (RS (SA TK Q (TN (qGS 3 [some 1] Q ?_))))))));refine WN [0,3] Q Q ?_;refine aH hm (λout1=>([(3,.d (.sl 1 (out1.map (D.int .i64))))]:Fr)) (λout1=>([]:List (Nat×Blk))) [3] [] Q (λz2 hm=>?_) (λout1 hm=>?_)
 ·refine RS (SA TK Q (TN (WN [0,3,4] Q Q (TB (aO hm (λ(out5,i6)=>([(3,.d (.sl 1 (out5.map (D.int .i64)))),(4,.d (.int .i64 i6))]:Fr)) (λ(out5,i6)=>([]:List (Nat×Blk))) [3,4] [0] [] Q k0 Q Q Q Q Q (λs z7 hm hz7=>?_))))));obtain⟨out5,i6⟩:=s;refine WN [0,3,4] Q Q (TQ (RS (SA TK Q (SA TK Q (SX Q Q (aM TK Q Q Q) (SA TK Q (TN (WN [0,3,4,8] Q Q ?_))))))));refine TC _ Q (λh8=>?_) (λh8=>?_)
  ·replace hm:=JT h8 hm;refine TS (WT (WN [0,3,4] Q Q (TQ (TB (TG (SA TK Q (SA TK Q (SA TK Q (VE hm λe9 he9 hm=>SX Q Q (bF TK Q Q Q Q he9) ?_)))))))));refine SA TK Q (BE hm λr10 hr10 hm=>SX Q Q (RD Q Q Q (uB hr10)) (SA TK Q (TN (WK (WT (WN [0,3,4] Q Q (TG ?_)))))));refine SA TK Q (GE hm λg11 hm=>SX Q Q (aU Q Q Q Q g11) (SA TK Q (TN (WT ?_))));exact⟨_,[],(SJ hm),Q,k0,Q⟩
  replace hm:=JF h8 hm;refine aE (WX (IE hm λv12 hm hz=>?_));rw [hz7 _ hz] at hm;refine WX (WH (WT ?_));exact⟨_,[],(SJ hm),Q,k0,Q⟩
 refine WN [3] Q Q (RS (SA TK Q (SA TK Q (TN (WN [2] Q Q (TR ?_))))));obtain rfl:=OJ hm;exact EndsS.one _ Q (.d _) (.refl _)
theorem qGE {p0:(List Int)} {p1:(List Int)} {r:(List Int)} (hm:uC p0 p1=some r):RetD Tryz.prog 130 [.sl 1 (p0.map (D.int .i64)),.sl 1 (p1.map (D.int .i64))] (.sl 1 (r.map (D.int .i64))):=by
 refine .of (mv:=λ_=>false) (aG qZK Tryz.func130 Q Tryz.ntmps130 Q Q (λwX gX=>?_));unfold uC at hm;refine WN [0,1] Q Q (RS (SA TK Q (TN (WN [0,1] Q Q (RS (SA TK Q (BE hm λr1 hr1 hm=>SX Q Q (RD Q Q Q (qIV hr1)) ?_)))))));refine SA TK Q (TN (WN [1,5] Q Q ?_));refine aH hm (λout2=>([(5,.d (.sl 1 (out2.map (D.int .i64))))]:Fr)) (λout2=>([]:List (Nat×Blk))) [5] [] Q (λz3 hm=>?_) (λout2 hm=>?_)
 ·refine RS (SA TK Q (TN (WN [1,5,6] Q Q (TB (aO hm (λ(out6,i7)=>([(5,.d (.sl 1 (out6.map (D.int .i64)))),(6,.d (.int .i64 i7))]:Fr)) (λ(out6,i7)=>([]:List (Nat×Blk))) [5,6] [1] [] Q k0 Q Q Q Q Q (λs z8 hm hz8=>?_))))));obtain⟨out6,i7⟩:=s;refine WN [1,5,6] Q Q (TQ (RS (SA TK Q (SA TK Q (SX Q Q (aM TK Q Q Q) (SA TK Q (TN (WN [1,5,6,12] Q Q ?_))))))));refine TC _ Q (λh9=>?_) (λh9=>?_)
  ·replace hm:=JT h9 hm;refine TS (WT (WN [1,5,6] Q Q (TQ (TB (TG (SA TK Q (SA TK Q (SA TK Q (VE hm λe10 he10 hm=>SX Q Q (bF TK Q Q Q Q he10) ?_)))))))));refine SA TK Q (BE hm λr11 hr11 hm=>SX Q Q (RD Q Q Q (uB hr11)) (SA TK Q (TN (WK (WT (WN [1,5,6] Q Q (TG ?_)))))));refine SA TK Q (GE hm λg12 hm=>SX Q Q (aU Q Q Q Q g12) (SA TK Q (TN (WT ?_))));exact⟨_,[],(SJ hm),Q,k0,Q⟩
  replace hm:=JF h9 hm;refine aE (WX (IE hm λv13 hm hz=>?_));rw [hz8 _ hz] at hm;refine WX (WH (WT ?_));exact⟨_,[],(SJ hm),Q,k0,Q⟩
 refine WN [5] Q Q (RS (SA TK Q (SA TK Q (TN (WN [4] Q Q (TR ?_))))));obtain rfl:=OJ hm;exact EndsS.one _ Q (.d _) (.refl _)
theorem qIK {p0:Layout} {p1:Route} {r:Route} (hm:xB p0 p1=some r):RetD Tryz.prog 65 [p0.enc,p1.enc] (r.enc):=by
 refine .of (mv:=λ_=>false) (aG zDQ Tryz.func65 Q Tryz.ntmps65 Q Q (λwX gX=>?_));unfold xB at hm;refine WN [0,1] Q Q (RS (cM 0 Q Q Q (cM 1 Q Q Q (cF 2 Q Q fL Q (eB (f:=End.enc) 2 13 3 125 2 Q Q Q (cN 2 [none,none,none,some 3,some 2,some 1,none,none,some 3,some 2,some 1,some 2,some 1,none] Q Q (TN (WN [2,3,4] Q Q ?_))))))));refine RS (SA TK Q (SA TK Q (cN 1 [none,none,none,none,none,none,none,none,none,none,none,some 2,none,none] Q Q (TN (WN [2,3,4] Q Q (RS (SA TK Q (SA TK Q (cN 1 [none,none,none,none,none,none,none,none,none,none,none,none,some 1,none] Q Q (TN ?_))))))))));refine WN [2,3,4] Q Q (RS (SA TK Q (SA TK Q (eB (f:=End.enc) 1 13 4 125 2 Q Q Q (TN (WN [2,3,4] Q Q (RS (SA TK Q (SA TK Q (s_aggE 14 Q Q ?_))))))))));refine BE hm λr1 hr1 hm=>SX Q Q (RD Q Q Q (qFY hr1)) (SA TK Q (TN (WN [2,3,4,5] Q Q ?_)));refine aH hm (λ(c2,c3,b4)=>([]:Fr)) (λ(c2,c3,b4)=>([(1,.box 88 [.d (.str p1.name),.d (.int .i64 p1.entry),.d (.int .i64 p1.exit),.d (.sl 3 (p1.path.map Step.enc)),.d (.sl 2 (p1.points.map Setting.enc)),.d (.sl 1 (p1.sections.map (D.int .i64))),.d (.int .i64 p1.approach),.d (.int .i64 p1.length),.d (.sl 3 (p1.over.map Step.enc)),.d (.sl 2 (p1.overPoints.map Setting.enc)),.d (.sl 1 (p1.overSections.map (D.int .i64))),.d (.sl 2 (c2.map Setting.enc)),.d (.sl 1 (c3.map (D.int .i64))),.msl 4 2 0 b4.length]),(4,.flat 125 2 (b4.map End.enc))]:List (Nat×Blk))) [] [3,4] Q (λz5 hm=>?_) (λj hm=>?_)
 ·refine RS (SA TK Q (TN (WN [2,3,4,5,6] Q Q (TB (aO hm (λ(i11,c12,c13,b14)=>([(6,.d (.int .i64 i11))]:Fr)) (λ(i11,c12,c13,b14)=>([(1,.box 88 [.d (.str p1.name),.d (.int .i64 p1.entry),.d (.int .i64 p1.exit),.d (.sl 3 (p1.path.map Step.enc)),.d (.sl 2 (p1.points.map Setting.enc)),.d (.sl 1 (p1.sections.map (D.int .i64))),.d (.int .i64 p1.approach),.d (.int .i64 p1.length),.d (.sl 3 (p1.over.map Step.enc)),.d (.sl 2 (p1.overPoints.map Setting.enc)),.d (.sl 1 (p1.overSections.map (D.int .i64))),.d (.sl 2 (c12.map Setting.enc)),.d (.sl 1 (c13.map (D.int .i64))),.msl 4 2 0 b14.length]),(4,.flat 125 2 (b14.map End.enc))]:List (Nat×Blk))) [6] [2,3,4,5] [0,1,2,3,4] Q k0 Q Q Q Q Q (λs z15 hm hz15=>?_))))));obtain⟨i11,c12,c13,b14⟩:=s;refine WN [2,3,4,5,6] Q Q (TQ (RS (SA TK Q (SA TK Q (SX Q Q (aM TK Q Q Q) (SA TK Q (TN (WN [2,3,4,5,6,19] Q Q ?_))))))));refine TC _ Q (λh16=>?_) (λh16=>?_)
  ·replace hm:=JT h16 hm;refine TS (WT (WN [2,3,4,5,6] Q Q (TQ (TB (fA (bM follows  (DA [0] TK Q (DA [1] TK Q ?_))))))));iterate 2 (refine DA [] TK Q ?_)
   refine VE hm λe17 he17 hm=>DX [] Q Q (bF TK Q Q Q Q he17) (DA [] TK Q (BE hm λr18 hr18 hm=>?_));obtain⟨r19,r20,r21⟩:=r18;refine DX [4] Q Q (qHB Q Q (SC (.d _) (SC (fG (.cons (.d _) Q (.cons (.d _) Q (.cons (.d _) Q (.cons (.d _) Q (.cons (.d _) Q (.cons (.d _) Q (.cons (.d _) Q (.cons (.d _) Q (.cons (.d _) Q (.cons (.d _) Q (.cons (.d _) Q (.cons (.d _) Q (.cons (.d _) Q (.cons (bO Q) Q .nil))))))))))))))) (SC (.d _) SN))) (qDQ hr18) Q) ?_;iterate 4 (refine DA [] TK Q ?_)
   refine qX [5] _ (.mptr 5 0 0 0) Q (gZ Q) Q (mP Q Q cS Q Q) (qND 1000012 [5] [(5,.box 148 [.d (.int .i64 r19.el),.d (.int .i64 r19.pos)])] (gZ Q) Q (tL TK Q Q Q Q Q Q Q Q Q Q) (DA [] TK Q ?_));refine DT ?_ (by kernel_rfl);refine SA TK Q (TN (WN [2,3,4,5,6,7,8,9] Q Q ?_));refine aH hm (λb22=>([]:Fr)) (λb22=>([(1,.box 88 [.d (.str p1.name),.d (.int .i64 p1.entry),.d (.int .i64 p1.exit),.d (.sl 3 (p1.path.map Step.enc)),.d (.sl 2 (p1.points.map Setting.enc)),.d (.sl 1 (p1.sections.map (D.int .i64))),.d (.int .i64 p1.approach),.d (.int .i64 p1.length),.d (.sl 3 (p1.over.map Step.enc)),.d (.sl 2 (p1.overPoints.map Setting.enc)),.d (.sl 1 (p1.overSections.map (D.int .i64))),.d (.sl 2 (c12.map Setting.enc)),.d (.sl 1 (c13.map (D.int .i64))),.msl 4 2 0 b22.length]),(4,.flat 125 2 (b22.map End.enc))]:List (Nat×Blk))) [] [2,3,4,5,6,7,8] Q (λz23 hm=>?_) (λb22 hm=>?_)
   ·refine RS (SA TK Q (SA TK Q (TN (WN [2,3,4,5,6,7,8,34] Q Q ?_))));refine TC _ Q (λh24=>?_) (λh24=>?_)
    ·replace hm:=JA h24 hm;refine fA (bW follows  (DA [] TK Q (DA [1] TK Q ?_)));iterate 2 (refine DA [] TK Q ?_)
     refine VE hm λe25 he25 hm=>DX [] Q Q (bF TK Q Q Q Q he25) (DA [] TK Q (DX [] Q Q (cX [.tmp 40] TK Q Q dV Q Q Q Q Q) (GE hm λg26 hm=>qX [4,6] _ (.msl 6 2 0 (b14++([e25]:List End)).length) Q (gZ Q) Q (qG (f:=End.enc) (xs:=b14) ([e25]:List End) Q Q Q TK Q dV Q Q Q Q Q Q dD g26) (DA [] TK Q ?_))));refine DT ?_ (by kernel_rfl);refine SA TK Q (TN (WT ?_));exact⟨_,[0,1,2,3,6,5],(SJ hm),Q,k0,Q⟩
    replace hm:=JB h24 hm;refine TS (WT ?_);exact⟨_,[0,1,2,3,4,5],(SJ hm),Q,k0,Q⟩
   refine WN [2,3,4,5,6,7,8] Q Q ?_;refine aH hm (λc27=>([]:Fr)) (λc27=>([(1,.box 88 [.d (.str p1.name),.d (.int .i64 p1.entry),.d (.int .i64 p1.exit),.d (.sl 3 (p1.path.map Step.enc)),.d (.sl 2 (p1.points.map Setting.enc)),.d (.sl 1 (p1.sections.map (D.int .i64))),.d (.int .i64 p1.approach),.d (.int .i64 p1.length),.d (.sl 3 (p1.over.map Step.enc)),.d (.sl 2 (p1.overPoints.map Setting.enc)),.d (.sl 1 (p1.overSections.map (D.int .i64))),.d (.sl 2 (c27.map Setting.enc)),.d (.sl 1 (c13.map (D.int .i64))),.msl 4 2 0 b22.length])]:List (Nat×Blk))) [] [2,3,4,5,6,8] Q (λz28 hm=>?_) (λc27 hm=>?_)
   ·refine RS (SA TK Q (SA TK Q (SA TK Q (TN (WN [2,3,4,5,6,7,8,46] Q Q ?_)))));refine TC _ Q (λh29=>?_) (λh29=>?_)
    ·replace hm:=gO h29 hm;refine TG (SA TK Q (SA TK Q (SA TK Q (BE hm λr30 hr30 hm=>SX Q Q (RD Q Q Q (qLE hr30)) (SA TK Q (SA TK Q (TN (WT ?_))))))));exact⟨_,[0,1,2,3,4,5],(SJ hm),Q,k0,Q⟩
    replace hm:=gP h29 hm;refine TS (WT ?_);exact⟨_,[0,1,2,3,4,5],(SJ hm),Q,k0,Q⟩
   refine WN [2,3,4,5,6,8] Q Q (RS (SA TK Q (SA TK Q (TN (WN [2,3,4,5,6,8,53] Q Q ?_)))));refine TC _ Q (λh31=>?_) (λh31=>?_)
   ·replace hm:=JT h31 hm;refine TG (SA TK Q (SA TK Q (SA TK Q (SX Q Q (cX [.tmp 56] TK Q Q dY Q Q Q Q Q) (BE hm λr32 hr32 hm=>SX Q Q (RD Q Q Q (qGE hr32)) (SA TK Q (SA TK Q (TN (WK (WT ?_))))))))));refine WN [2,3,4,5,6] Q Q (TG (SA TK Q (GE hm λg33 hm=>SX Q Q (aU Q Q Q Q g33) (SA TK Q (TN (WT ?_))))));exact⟨_,[0,1,2,3,4],(SJ hm),Q,k0,Q⟩
   replace hm:=JF h31 hm;refine TS (WK (WT (WN [2,3,4,5,6] Q Q (TG (SA TK Q (GE hm λg34 hm=>SX Q Q (aU Q Q Q Q g34) (SA TK Q ?_)))))));refine TN (WT ?_);exact⟨_,[0,1,2,3,4],(SJ hm),Q,k0,Q⟩
  replace hm:=JF h16 hm;refine aE (WX (IE hm λv35 hm hz=>?_));rw [hz15 _ hz] at hm;refine WX (WH (WT ?_));exact⟨_,[0,1,2,3,4],(SJ hm),Q,k0,Q⟩
 obtain⟨c2,c3,b4⟩:=j;refine WN [3,4] Q Q (RS (SA TK Q (SA TK Q (TN (WN [4] Q Q (TR ?_))))));obtain rfl:=OJ hm;exact EndsS.cellR _ TK Q Q Q Q Q (fG (.cons (.d _) Q (.cons (.d _) Q (.cons (.d _) Q (.cons (.d _) Q (.cons (.d _) Q (.cons (.d _) Q (.cons (.d _) Q (.cons (.d _) Q (.cons (.d _) Q (.cons (.d _) Q (.cons (.d _) Q (.cons (.d _) Q (.cons (.d _) Q (.cons (bO Q) Q .nil)))))))))))))))
theorem qFW {p0:Layout} {r0:Table} {r1:Int} (hm:tP p0=some (r0,r1)):RetT Tryz.prog 26 [p0.enc] [r0.enc,.int .i64 r1]:=by
 refine .of (mv:=λ_=>false) (gN zEM Tryz.func26 Q Tryz.ntmps26 Q Q (λwX gX=>?_));unfold tP at hm;refine WN [0] Q Q (RS (cM 0 Q Q Q (cF 1 Q Q qDA Q (eB (f:=Route.enc) 1 0 2 88 14 Q Q Q (eB (f:=(D.int .i64)) 1 2 3 3 1 Q Q Q (cN 1 [none,some 1,none,none,none] Q Q (SA TK Q (TN ?_))))))));refine WN [1,2] Q Q (RS (SA TK Q (BE hm λr1 hr1 hm=>?_)));obtain⟨r2,r3⟩:=r1;refine SX Q Q (eS Q Q Q (qLH hr1)) ?_;iterate 5 (refine SA TK Q ?_)
 refine TN (WN [1,2,4,5] Q Q (TQ (RS (SA TK Q (SA TK Q (TN (WN [1,2,4,5,17] Q Q ?_)))))));refine TC _ Q (λh4=>?_) (λh4=>?_)
 ·replace hm:=gO h4 hm;refine RS (SX Q Q (gK Q zFT qDA Q Q Q Q) (SA TK Q (SA TK Q (eB (f:=Route.enc) 1 0 4 88 14 Q Q Q (eB (f:=(D.int .i64)) 1 2 5 3 1 Q Q Q (cN 1 [none,some 1,none,none,none] Q Q (SA TK Q (TN (WN [2,3] Q Q ?_)))))))));refine TR (WR ?_);obtain⟨rfl,rfl⟩:=Prod.mk.inj (Option.some.inj hm);exact⟨_,.mk _ (.cons (.agg (TK.lay Q) Q Q Q Q) (.cons (.tmp 3) .nil)) Q,(.cons (fG (.cons (bO Q) Q (.cons (.d _) Q (.cons (bO Q) Q (.cons (.d _) Q (.cons (.d _) Q .nil)))))) (.refl _) (.cons (.d _) (.refl _) .nil))⟩
 replace hm:=gP h4 hm;refine TS (WT (WN [1,2,4] Q Q (fA (bM follows  (DA [0] TK Q (BE hm λr5 hr5 hm=>DX [] Q Q (RD Q Q Q (qDS hr5)) (DA [] TK Q ?_)))))));refine DA [0] TK Q (DX [] Q Q (aM TK Q Q Q) (DA [] TK Q (DA [0] TK Q (DX [] Q Q (aM TK Q Q Q) (DX [] Q Q (gK Q zFT qDA Q Q Q Q) (qX [4] _ (.mptr 4 0 0 0) Q (gZ Q) Q (mP Q Q qDA Q Q) ?_))))));refine DT ?_ (by kernel_rfl);refine SA TK Q (eB (f:=Route.enc) 4 0 5 88 14 Q Q Q (eB (f:=(D.int .i64)) 4 2 6 3 1 Q Q Q (TN (WN [1,2,4,6] Q Q ?_))));refine aH hm (λb6=>([]:Fr)) (λb6=>([(4,.box 25 [.msl 5 14 0 b6.length,.d (.sl 1 (r5.map (D.int .i64))),.msl 6 1 0 ([]:List Int).length,.d (.int .i64 (p0.sections.length:Int)),.d (.int .i64 (p0.signals.length:Int))]),(5,.flat 88 14 (b6.map Route.enc))]:List (Nat×Blk))) [] [1,2,6] Q (λz7 hm=>?_) (λb6 hm=>?_)
 ·refine RS (SA TK Q (SX Q Q (aM TK Q Q Q) (SA TK Q (TN (WN [1,2,6,29,30,31] Q Q (TB (aO hm (λ(x11,b12)=>([(31,.d (.int .i64 x11))]:Fr)) (λ(x11,b12)=>([(4,.box 25 [.msl 5 14 0 b12.length,.d (.sl 1 (r5.map (D.int .i64))),.msl 6 1 0 ([]:List Int).length,.d (.int .i64 (p0.sections.length:Int)),.d (.int .i64 (p0.signals.length:Int))]),(5,.flat 88 14 (b12.map Route.enc))]:List (Nat×Blk))) [31] [1,2,6,29,30] [0,1,2,3,4,5,6] Q k0 Q Q Q Q Q (λs z13 hm hz13=>?_))))))));obtain⟨x11,b12⟩:=s;refine WN [1,2,6,29,30,31] Q Q (RS (SA TK Q (TN (WN [1,2,6,29,30,31,32] Q Q (TQ ?_)))));refine TC _ Q (λh14=>?_) (λh14=>?_)
  ·replace hm:=JT h14 hm;refine TS (WT (WN [1,2,6,29,30,31] Q Q (TQ (TB (RS (VE hm λe15 he15 hm=>SX Q Q (bF TK Q Q Q Q he15) (SA TK Q ?_)))))));refine cF 7 Q Q fL Q (cN 7 [none,none,none,some 3,some 2,some 1,none,none,some 3,some 2,some 1,some 2,some 1,some 2] Q Q (SA TK Q (TN (WN [1,2,6,8,29,30,31] Q Q (fA (bW follows  (DA [] TK Q (DA [4] TK Q ?_))))))));iterate 2 (refine DA [0] TK Q ?_)
   refine DA [7] TK Q (BE hm λr16 hr16 hm=>DX [] Q Q (RD Q Q Q (qIM hr16)) (BE hm λr17 hr17 hm=>DX [] Q Q (RD Q Q Q (qIK hr17)) (DX [] Q Q (cX [.tmp 41] TK Q Q fL Q Q Q Q Q) (GE hm λg18 hm=>qX [5,8] _ (.msl 8 14 0 (b12++([r17]:List Route)).length) Q (gZ Q) Q (qG (f:=Route.enc) (xs:=b12) ([r17]:List Route) Q Q Q TK Q fL Q Q Q Q Q Q dD g18) (DA [] TK Q ?_)))));refine DT ?_ (by kernel_rfl);refine SA TK Q (TN (WK (WT (WN [1,2,6,29,30,31] Q Q (TG (GE hm λg19 hm=>SX Q Q (aU Q Q Q Q g19) (SA TK Q ?_)))))));refine TN (WT ?_);exact⟨_,[0,1,2,3,4,8,6],(SJ hm),Q,k0,Q⟩
  replace hm:=JF h14 hm;refine aE (WX (IE hm λv20 hm hz=>?_));rw [hz13 _ hz] at hm;refine WX (WH (WT ?_));exact⟨_,[0,1,2,3,4,5,6],(SJ hm),Q,k0,Q⟩
 refine WN [1,2,6] Q Q ?_;refine aH hm (λb21=>([]:Fr)) (λb21=>([(4,.box 25 [.msl 5 14 0 b6.length,.d (.sl 1 (r5.map (D.int .i64))),.msl 6 1 0 b21.length,.d (.int .i64 (p0.sections.length:Int)),.d (.int .i64 (p0.signals.length:Int))]),(6,.flat 3 1 (b21.map (D.int .i64)))]:List (Nat×Blk))) [] [2,6] Q (λz22 hm=>?_) (λb21 hm=>?_)
 ·refine RS (SA TK Q (SA TK Q (SX Q Q (aM TK Q Q Q) (SA TK Q (TN (WN [1,2,6,47,48,49] Q Q (TB (aO hm (λ(x26,b27)=>([(49,.d (.int .i64 x26))]:Fr)) (λ(x26,b27)=>([(4,.box 25 [.msl 5 14 0 b6.length,.d (.sl 1 (r5.map (D.int .i64))),.msl 6 1 0 b27.length,.d (.int .i64 (p0.sections.length:Int)),.d (.int .i64 (p0.signals.length:Int))]),(6,.flat 3 1 (b27.map (D.int .i64)))]:List (Nat×Blk))) [49] [1,2,6,47,48] [0,1,2,3,4,5,6] Q k0 Q Q Q Q Q (λs z28 hm hz28=>?_)))))))));obtain⟨x26,b27⟩:=s;refine WN [1,2,6,47,48,49] Q Q (RS (SA TK Q (TN (WN [1,2,6,47,48,49,50] Q Q (TQ ?_)))));refine TC _ Q (λh29=>?_) (λh29=>?_)
  ·replace hm:=JT h29 hm;refine TS (WT (WN [1,2,6,47,48,49] Q Q (TQ (TB (RS (VE hm λe30 he30 hm=>SX Q Q (bF TK Q Q Q Q he30) (SA TK Q (SA TK Q ?_))))))));refine TN (WN [1,2,6,10,47,48,49] Q Q (fA (bW follows  (DA [] TK Q (DA [4] TK Q (DA [0] TK Q (DA [] TK Q (BE hm λr31 hr31 hm=>?_))))))));refine DX [] Q Q (RN Q Q (SC (.d _) (SC (.d _) SN)) (jF hr31)) (DX [] Q Q (cX [.tmp 57] TK Q Q dY Q Q Q Q Q) (GE hm λg32 hm=>qX [6,7] _ (.msl 7 1 0 (b27++([r31]:List Int)).length) Q (gZ Q) Q (qG (f:=(D.int .i64)) (xs:=b27) ([r31]:List Int) Q Q Q TK Q dY Q Q Q Q Q Q dD g32) (DA [] TK Q ?_)));refine DT ?_ (by kernel_rfl);refine SA TK Q (TN (WK (WT (WN [1,2,6,47,48,49] Q Q (TG (GE hm λg33 hm=>SX Q Q (aU Q Q Q Q g33) (SA TK Q ?_)))))));refine TN (WT ?_);exact⟨_,[0,1,2,3,4,5,7],(SJ hm),Q,k0,Q⟩
  replace hm:=JF h29 hm;refine aE (WX (IE hm λv34 hm hz=>?_));rw [hz28 _ hz] at hm;refine WX (WH (WT ?_));exact⟨_,[0,1,2,3,4,5,6],(SJ hm),Q,k0,Q⟩
 refine WN [2,6] Q Q (RS (SA TK Q (SA TK Q (SA TK Q (TN (WN [2,3] Q Q (TR ?_)))))));obtain⟨rfl,rfl⟩:=Prod.mk.inj (Option.some.inj hm);exact⟨_,.mk _ (.cons (.agg (TK.lay Q) Q Q Q Q) (.cons (.tmp 3) .nil)) Q,(.cons (fG (.cons (bO Q) Q (.cons (.d _) Q (.cons (bO Q) Q (.cons (.d _) Q (.cons (.d _) Q .nil)))))) (.refl _) (.cons (.d _) (.refl _) .nil))⟩
theorem gH {p0:Int} {p1:Int} {r:Bool} (hm:dQ p0 p1=some r):RetN Tryz.prog 208 [.int .i64 p0,.int .i64 p1] (.bool (r)):=by
 refine .unit (aG qXD Tryz.func208 Q Tryz.ntmps208 Q Q (λwX gX=>?_)) Q;unfold dQ at hm;refine WN [0,1] Q Q (RS (SA TK Q (TN (WN [0,1] Q Q ?_))));refine fM [(4,.d (.bool (((decide ((0:Int)≤p0))&&(decide (p0 < p1))))))] [4] [] Q ?_ ?_
 ·refine TG (SA TK Q (SA TK Q (SB TK Q (λq1 hq1=>?_))));cases q1
  ·iterate 5 (refine SA TK Q ?_)
   refine TN (WT ?_);exact⟨[],Q,k0,bE (aK (aL (by first|(simp [hq1];done)|(simp only [hq1];simp))) Q) Q⟩
  iterate 5 (refine SA TK Q ?_)
  refine TN (WT ?_);exact⟨[],Q,k0,bE (aK (aL (by first|(simp [hq1];done)|(simp only [hq1];simp))) Q) Q⟩
 refine WN [4] Q Q (TR ?_);obtain rfl:=OJ hm;exact EndsS.one _ Q (.d _) (.refl _)
theorem wB {p0:Table} {r:Bool} (hm:iH p0=some r):RetN Tryz.prog 209 [p0.enc] (.bool (r)):=by
 refine .unit (aG qXC Tryz.func209 Q Tryz.ntmps209 Q Q (λwX gX=>?_)) Q;unfold iH at hm;refine WN [0] Q Q (RS (cM 0 Q Q Q (SA TK Q (TN (WN [1] Q Q (TQ (RS (SA TK Q (SA TK Q ?_)))))))));refine SX Q Q (aM TK Q Q Q) (SA TK Q (SA TK Q (SX Q Q (aM TK Q Q Q) (SA TK Q (TN (WN [1,11] Q Q ?_))))));refine TC _ Q (λh1=>?_) (λh1=>?_)
 ·replace hm:=gO h1 hm;refine RS (SA TK Q (TN (WN [2] Q Q (TR (WR ?_)))));obtain rfl:=OJ hm;exact EndsS.one _ Q (.d _) (.refl _)
 replace hm:=gP h1 hm;refine TS (WT (WN [1] Q Q ?_));refine bK hm (λ_=>([]:Fr)) (λ_=>([]:List (Nat×Blk))) [] [] Q (λz2 hm hz2=>?_) (λj hm=>?_)
 ·refine RS (SA TK Q (SA TK Q (SX Q Q (aM TK Q Q Q) (SA TK Q (TN (WN [1,13,14,15] Q Q (TB (aO hm (λx4=>([(15,.d (.int .i64 x4))]:Fr)) (λx4=>([]:List (Nat×Blk))) [15] [1,13,14] [0] Q k0 Q Q Q Q Q (λx4 z5 hm hz5=>WN [1,13,14,15] Q Q ?_)))))))));refine RS (SA TK Q (TN (WN [1,13,14,15,16] Q Q (TQ ?_))));refine TC _ Q (λh6=>?_) (λh6=>?_)
  ·replace hm:=JT h6 hm;refine TS (WT (WN [1,13,14,15] Q Q (TQ (TB (RS (SA TK Q (VE hm λe7 he7 hm=>SX Q Q (bF TK Q Q Q Q he7) ?_)))))));refine SA TK Q (SA TK Q (SA TK Q (TN (WN [1,3,4,13,14,15] Q Q ?_))));refine aH hm (λx8=>([(46,.d (.bool (x8)))]:Fr)) (λx8=>([]:List (Nat×Blk))) [46] [1,13,14,15] Q (λz9 hm=>?_) (λx8 hm=>?_)
   ·refine bW follows  ?_;iterate 2 (refine DA [0] TK Q ?_)
    refine d_b [0] TK Q (λq10 hq10=>?_);cases q10
    ·replace hm:=JF hq10 hm;iterate 2 (refine DA [0] TK Q ?_)
     refine d_b [0] TK Q (λq11 hq11=>?_);cases q11
     ·replace hm:=JF hq11 hm;iterate 14 (refine DA [0] TK Q ?_)
      refine VE hm λe12 he12 hm=>DX [0] Q Q (bF TK Q Q Q Q he12) ?_;iterate 3 (refine DA [0] TK Q ?_)
      refine BE hm λr13 hr13 hm=>DX [0] Q Q (RN Q Q (SC (.d _) (SC (.d _) SN)) (gH hr13)) ?_;iterate 2 (refine DA [0] TK Q ?_)
      refine DT ?_ (by kernel_rfl);refine TN (WT ?_);exact⟨_,[0],(SJ hm),Q,k0,Q⟩
     replace hm:=JT hq11 hm;iterate 4 (refine DA [0] TK Q ?_)
     refine GE hm λg14 hm=>DX [0] Q Q (aU Q Q Q Q g14) (VE hm λe15 he15 hm=>DX [0] Q Q (bF TK Q Q Q Q he15) ?_);iterate 4 (refine DA [0] TK Q ?_)
     refine d_b [0] TK Q (λq16 hq16=>?_);cases q16
     ·replace hm:=JF hq16 hm;iterate 3 (refine DA [0] TK Q ?_)
      refine VE hm λe17 he17 hm=>DX [0] Q Q (bF TK Q Q Q Q he17) ?_;iterate 3 (refine DA [0] TK Q ?_)
      refine BE hm λr18 hr18 hm=>DX [0] Q Q (RN Q Q (SC (.d _) (SC (.d _) SN)) (gH hr18)) ?_;iterate 2 (refine DA [0] TK Q ?_)
      refine DT ?_ (by kernel_rfl);refine TN (WT ?_);exact⟨_,[0],(SJ hm),Q,k0,Q⟩
     replace hm:=JT hq16 hm;iterate 10 (refine DA [0] TK Q ?_)
     refine DT ?_ (by kernel_rfl);refine TN (WT ?_);exact⟨_,[0],(SJ hm),Q,k0,Q⟩
    replace hm:=JT hq10 hm;iterate 24 (refine DA [0] TK Q ?_)
    refine DT ?_ (by kernel_rfl);refine TN (WT ?_);exact⟨_,[0],(SJ hm),Q,k0,Q⟩
   refine WN [1,13,14,15,46] Q Q ?_;refine TC _ Q (λh19=>?_) (λh19=>?_)
   ·replace hm:=JA h19 hm;refine RS (SA TK Q (TN (WN [2] Q Q (TR (WB (WR (IE hm λv20 hm hz=>?_)))))));rw [hz5 _ hz] at hm;refine WR (WB (IE hm λv21 hm hz=>?_));rw [hz2 _ hz] at hm;refine WR ?_;obtain rfl:=OJ hm;exact EndsS.one _ Q (.d _) (.refl _)
   replace hm:=JB h19 hm;refine TS (WK (WT (WN [1,13,14,15] Q Q (TG (GE hm λg22 hm=>SX Q Q (aU Q Q Q Q g22) (SA TK Q (TN ?_)))))));refine WT ?_;exact⟨_,[0],(SJ hm),Q,k0,Q⟩
  replace hm:=JF h6 hm;refine aE (WX (IE hm λv23 hm hz=>?_));rw [hz5 _ hz] at hm;refine WX (WH (WT ?_));exact⟨_,[0],(SJ hm),Q,k0,Q⟩
 refine WN [] Q Q (RS (SA TK Q (TN (WN [2] Q Q (TR ?_)))));obtain rfl:=OJ hm;exact EndsS.one _ Q (.d _) (.refl _)
theorem tG (n:Nat) (hn:n≤1000000000) (mv:Nat→Bool):Ret Tryz.prog 182 [] mv ([.nilsl,.int .i64 n].map .d) (.msl 0 1 0 0) [.flat 3 1 []]:=by
 refine cU qYA Tryz.func182 Q Tryz.ntmps182 Q Q (λwX gX=>bC [0,1] (aP Q (aP Q .nil)) (bJ Q) (RS (cO _ Q (gF (.inr Q) Q) (TN (bC [0,1] (aP Q (aP Q .nil)) (bJ Q) (TQ (RS (cO _ Q (gF (.inl Q) Q) ?_))))))));refine cO _ Q (mT Q Q Q Q) (TN (bC [0,1,6] (aP Q (aP Q (aP Q .nil))) (bJ Q) ?_));refine TC _ Q (λhneg=>?_) (λhneg=>?_)
 ·exact absurd (of_decide_eq_true hneg) (by omega)
 refine TS (WT (bC [0,1] (aP Q (aP Q .nil)) (bJ Q) (TQ (RS (cO _ Q (gF (.inl Q) Q) (cO _ Q (gF (.inl Q) Q) (cO _ Q (qCU Q wK Q) (cO _ Q (gF (.inl Q) Q) ?_))))))));refine cO _ Q (mS Q wK Q) ?_;refine cO _ Q (rV (r:=0) Q Q Q Q Q (by first|omega|(constructor<;>omega))) ?_;refine cO _ Q (rV (r:=(n:Int)) Q Q Q Q (by omega) (by first|omega|(constructor<;>omega))) ?_;refine cO _ Q (gF (.inr Q) Q) (TN (bC [0,1] (aP Q (aP Q .nil)) (bJ Q) (RS (cO _ Q (gF (.inl Q) Q) (cO _ Q (mT Q Q Q Q) (TN (bC [0,1,16] (aP Q (aP Q (aP Q .nil))) (bJ Q) ?_)))))));refine TC _ Q (λhpos=>?_) (λhpos=>?_)
 ·have hpos:0 < n:=by simpa using hpos
  refine TG (cO _ Q (gF (.inl Q) Q) (cO _ Q (gF (.inl Q) Q) (cO _ Q (qCU Q wK Q) (cO _ Q (qRF Q wK Q Q Q) (cO _ Q (gF (.inl Q) Q) ?_)))));refine qQI (n:=n) Q wK Tryz.underlying3 dY Q Q Q hpos (by decide) (by omega) (by omega) ?_;refine cO _ Q (gF (.inl Q) Q) (cO _ Q (mS Q wK Q) (cO _ Q (qDV 0 1 8 0 n 0 0 Q wK Q Q Q (zQW _) (Nat.zero_le _)) (cO _ Q (iS (.inr Q) Q) (TN (WT (bC [0] (eT Q .nil) (dP Q (bJ Q)) (RS (cO _ Q (iS (.inl Q) Q) ?_))))))));refine cO _ Q (iS (.inr Q) Q) (TN (bC [4] (eT Q .nil) (dP Q (bJ Q)) (TR ?_)));exact⟨_,[0],res Q,by decide,λi hi=>absurd hi (zQV i),Q,Q⟩
 refine qBC 0 3 1 Q (TS (WT (bC [0] (eT Q .nil) (dP Q (bJ Q)) (RS (cO _ Q (iS (.inl Q) Q) (cO _ Q (iS (.inr Q) Q) (TN (bC [4] (eT Q .nil) (dP Q (bJ Q)) ?_))))))));refine TR ?_;exact⟨_,[0],res Q,by decide,λi hi=>absurd hi (zQV i),Q,Q⟩
theorem rE (xss:List (List Int)) (hn:xss.length≤1000) (ht:xss.flatten.length≤1000000000) (mv:Nat→Bool):Ret Tryz.prog 107 [] mv ([.sl 1 (xss.map λl=>.sl 1 (l.map (D.int .i64)))].map .d) (.msl 0 1 0 xss.flatten.length) [.flat 3 1 (xss.flatten.map (D.int .i64))]:=by
 refine cU qZU Tryz.func107 Q Tryz.ntmps107 Q Q (λwX gX=>bC [0] (aP Q .nil) (bJ Q) (RS (cO _ Q (gF (.inr Q) Q) (TN (bC [0] (aP Q .nil) (bJ Q) (RS (cO _ Q (gF (.inr Q) Q) (TN ?_))))))));refine bC [0,3] (aP Q (aP Q .nil)) (bJ Q) (TQ (RS (cO _ Q (gF (.inl Q) Q) ?_)));refine cO _ Q (by first|exact qEE Q zU Q (by first|exact zQC _|rfl)|exact mS Q zU Q) ?_;refine cO _ Q (gF (.inl Q) Q) (TN (bC [0,3,9,10,11] (aP Q (aP Q (aP Q (aP Q (aP Q .nil))))) (bJ Q) (TB ?_)));refine oP (λi=>([(3,.d (.int .i64 ((gR xss i).length:Int))),(11,.d (.int .i64 ((i:Nat):Int)))]:Fr)) (λi=>([]:List (Nat×Blk))) (λi=>i≤xss.length) (λi=>xss.length - i) [3,11] [0,9,10] [] 0 (by decide) (λi hi=>absurd hi (zQV i)) (Nat.zero_le _) (aP Q (aP Q (aP Q .nil))) Q (by rw [oJ];rfl) (bJ Q) Q ?_;rintro i hok;refine bC [3,11,0,9,10] (aP Q (aP Q (aP Q (aP Q (aP Q .nil))))) (bJ Q) (RS (cO _ Q (mT Q Q Q Q) (TN (bC [0,3,9,10,11,12] (aP Q (aP Q (aP Q (aP Q (aP Q (aP Q .nil)))))) (bJ Q) (TQ ?_)))));refine TC _ Q (λhlt=>?_) (λhlt=>?_)
 ·have hlt:i < xss.length:=by simpa using hlt
  obtain⟨x,hx⟩:∃ x,(xss)[i]?=some x:=⟨_,zQR (by first|exact hlt|omega|(simp;omega))⟩;have hs:=kC hx;have hle:=dN xss (i+1);refine TS (WT (bC [0,3,9,10,11] (aP Q (aP Q (aP Q (aP Q (aP Q .nil))))) (bJ Q) (TQ (TB (RS (cO _ Q (uO Q zU Q Q (qCQ hx)) (cO _ Q (yV Q zFZ Q Q) (cO _ Q (gF (.inr Q) Q) ?_))))))));refine TN (bC [0,3,5,9,10,11] (aP Q (aP Q (aP Q (aP Q (aP Q (aP Q .nil)))))) (bJ Q) (RS (cO _ Q (gF (.inl Q) Q) (cO _ Q (gF (.inl Q) Q) ?_))));refine cO _ Q (by first|exact qEE Q wK Q (by first|exact zQC _|rfl)|exact mS Q wK Q) ?_;refine cO _ Q (rV (r:=((gR xss (i+1)).length:Int)) Q Q Q Q (by rw [hs];simp) (by omega)) ?_;refine cO _ Q (gF (.inr Q) Q) (TN (bC [0,3,9,10,11] (aP Q (aP Q (aP Q (aP Q (aP Q .nil))))) (bJ Q) (RS (cO _ Q (gF (.inl Q) Q) (cO _ Q (mT Q Q Q Q) (TN (bC [0,3,9,10,11,20] (aP Q (aP Q (aP Q (aP Q (aP Q (aP Q .nil)))))) (bJ Q) ?_)))))));refine TC _ Q (λhneg=>?_) (λhneg=>?_)
  ·exact absurd (of_decide_eq_true hneg) (by omega)
  refine TS (WK (WT (bC [0,3,9,10,11] (aP Q (aP Q (aP Q (aP Q (aP Q .nil))))) (bJ Q) (TG ?_))));refine cO _ Q (rW Q Q Q Q (by first|omega|(constructor<;>omega))) ?_;refine cO _ Q (gF (.inl Q) Q) (TN (WT ?_));exact⟨(i+1),[],by decide,(λi hi=>absurd hi (zQV i)),(by omega),(by omega),Q⟩
 have hge:¬ i < xss.length:=by simpa using hlt
 have hi:i=xss.length:=by omega
 refine aE (WX (WX (WH (WT (bC [0,3] (aP Q (aP Q .nil)) (bJ Q) (RS (cO _ Q (gF (.inl Q) Q) ?_)))))));refine qCK Q Q Q (tG _ (by have:=dN xss i;omega) (λ_=>false)) Q Q ?_;refine cO _ Q (iS (.inr Q) Q) (TN (bC [0,6] (aP Q (eT Q .nil)) (dP Q (bJ Q)) (TQ (RS (cO _ Q (gF (.inl Q) Q) ?_)))));refine cO _ Q (by first|exact qEE Q zU Q (by first|exact zQC _|rfl)|exact mS Q zU Q) ?_;refine cO _ Q (gF (.inl Q) Q) (TN (bC [6,25,26,27] (eT Q (aP Q (aP Q (aP Q .nil)))) (dP Q (bJ Q)) (TB ?_)));refine oP (λi=>([(6,.msl 0 1 0 (gR xss i).length),(27,.d (.int .i64 ((i:Nat):Int)))]:Fr)) (λi=>([(0,.flat 3 1 ((gR xss i).map (D.int .i64)))]:List (Nat×Blk))) (λi=>i≤xss.length) (λi=>xss.length - i) [6,27] [25,26] [0] 0 (by decide) (λi hi=>absurd hi (zQV i)) (Nat.zero_le _) (aP Q (aP Q .nil)) Q (by rw [oJ];rfl) (dP Q (bJ Q)) (by rw [oJ];rfl) ?_;rintro i hok;refine bC [6,27,25,26] (eT Q (aP Q (aP Q (aP Q .nil)))) (dP Q (bJ Q)) (RS (cO _ Q (mT Q Q Q Q) (TN (bC [6,25,26,27,28] (eT Q (aP Q (aP Q (aP Q (aP Q .nil))))) (dP Q (bJ Q)) (TQ ?_)))));refine TC _ Q (λhlt=>?_) (λhlt=>?_)
 ·have hlt:i < xss.length:=by simpa using hlt
  obtain⟨x,hx⟩:∃ x,(xss)[i]?=some x:=⟨_,zQR (by first|exact hlt|omega|(simp;omega))⟩;have hs:=kC hx;have hle:=dN xss (i+1);have hsl:(gR xss (i+1)).length=(gR xss i).length+x.length:=by rw [hs];simp
  refine TS (WT (bC [6,25,26,27] (eT Q (aP Q (aP Q (aP Q .nil)))) (dP Q (bJ Q)) (TQ (TB (RS (cO _ Q (uO Q zU Q Q (qCQ hx)) (cO _ Q (yV Q zFZ Q Q) (cO _ Q (gF (.inr Q) Q) ?_))))))));refine TN (bC [6,8,25,26,27] (eT Q (aP Q (aP Q (aP Q (aP Q .nil))))) (dP Q (bJ Q)) (TG (cO _ Q (iS (.inl Q) Q) (cO _ Q (gF (.inl Q) Q) ?_))));refine qDL (m:=(gR xss (i+1)).length) (ds:=x.map (D.int .i64)) (es':=(gR xss (i+1)).map (D.int .i64)) Q wK dY Q Q Q (by simp) (λh=>absurd h (zQV _)) Q ⟨Q,(by first|rfl|(simp [List.map_take,List.map_drop];done)|(rw [← List.map_drop,List.take_of_length_le (by simp)]))⟩ (by rw [hs];simp) (by simp;omega) (by omega) (by omega) Q Q ?_;refine cO _ Q (iS (.inr Q) Q) (TN (WK (WT (bC [6,25,26,27] (eT Q (aP Q (aP Q (aP Q .nil)))) (dP Q (bJ Q)) (TG ?_)))));refine cO _ Q (rW Q Q Q Q (by first|omega|(constructor<;>omega))) ?_;refine cO _ Q (gF (.inl Q) Q) (TN (WT ?_));exact⟨(i+1),[0],by decide,(λi hi=>absurd hi (zQV i)),(by omega),(by omega),Q⟩
 have hge:¬ i < xss.length:=by simpa using hlt
 have hi:i=xss.length:=by omega
 have hall:=qMX hge;refine aE (WX (WX (WH (WT (bC [6] (eT Q .nil) (dP Q (bJ Q)) (RS (cO _ Q (iS (.inl Q) Q) (cO _ Q (iS (.inr Q) Q) ?_))))))));refine TN (bC [2] (eT Q .nil) (dP Q (bJ Q)) (TR ?_));rw [hall];exact⟨_,[0],res Q,by decide,λi hi=>absurd hi (zQV i),Q,Q⟩
theorem iR {p0:List (List Int)} {r:List Int} (hm:fN p0=some r):RetN Tryz.prog 107 [.sl 1 (p0.map (λl=>D.sl 1 (l.map (D.int .i64))))] (.sl 1 (r.map (D.int .i64))):=by
 unfold fN at hm;refine GE hm λg hm=>?_;obtain rfl:=OJ hm;exact .flat (rE p0 g.1 g.2 (λ_=>false)) (by rw [zQC]) (λe he=>by obtain⟨x,_,rfl⟩:=List.mem_map.1 he;rfl)
theorem wZ {p0:Table} {p1:Route} {r:Bool} (hm:hZ p0 p1=some r):RetN Tryz.prog 210 [p0.enc,p1.enc] (.bool (r)):=by
 refine .unit (aG qXB Tryz.func210 Q Tryz.ntmps210 Q Q (λwX gX=>?_)) Q;unfold hZ at hm;refine WN [0,1] Q Q (RS (cM 0 Q Q Q (cM 1 Q Q Q (SA TK Q (TN (WN [2,3] Q Q (TQ ?_)))))));refine aH hm (λx1=>([(26,.d (.bool (x1)))]:Fr)) (λx1=>([]:List (Nat×Blk))) [26] [2,3] Q (λz2 hm=>?_) (λx1 hm=>?_)
 ·refine TG ?_;iterate 4 (refine SA TK Q ?_)
  refine BE hm λr3 hr3 hm=>SX Q Q (RN Q Q (SC (.d _) (SC (.d _) SN)) (gH hr3)) (SA TK Q (SB TK Q (λq4 hq4=>?_)));cases q4
  ·replace hm:=JB hq4 hm;refine SA TK Q (SA TK Q (SA TK Q (SB TK Q (λq5 hq5=>?_))));cases q5
   ·replace hm:=gP hq5 hm;iterate 8 (refine SA TK Q ?_)
    refine TN (WT ?_);exact⟨_,[0,1],(SJ hm),Q,k0,Q⟩
   replace hm:=gO hq5 hm;iterate 4 (refine SA TK Q ?_)
   refine BE hm λr6 hr6 hm=>SX Q Q (RN Q Q (SC (.d _) (SC (.d _) SN)) (gH hr6)) (SA TK Q (SA TK Q (SA TK Q (TN (WT ?_)))));exact⟨_,[0,1],(SJ hm),Q,k0,Q⟩
  replace hm:=JA hq4 hm;iterate 12 (refine SA TK Q ?_)
  refine TN (WT ?_);exact⟨_,[0,1],(SJ hm),Q,k0,Q⟩
 refine WN [2,3,26] Q Q ?_;refine TC _ Q (λh7=>?_) (λh7=>?_)
 ·replace hm:=JA h7 hm;refine RS (SA TK Q (TN (WN [4] Q Q (TR (WR ?_)))));obtain rfl:=OJ hm;exact EndsS.one _ Q (.d _) (.refl _)
 replace hm:=JB h7 hm;refine TS (WT (WN [2,3] Q Q (TQ ?_)));refine fM [(42,.d (.bool (((decide ((p1.path.length:Int) < (1:Int)))||((decide ((12:Int) < (p1.path.length:Int)))||(decide ((p1.sections.length:Int)=(0:Int))))))))] [42] [2,3] Q ?_ ?_
 ·refine TG (SA TK Q (SA TK Q (SX Q Q (aM TK Q Q Q) (SA TK Q (SB TK Q (λq8 hq8=>?_))))));cases q8
  ·refine SA TK Q (SA TK Q (SX Q Q (aM TK Q Q Q) (SA TK Q (SA TK Q (SB TK Q (λq9 hq9=>?_))))));cases q9
   ·refine SA TK Q (SA TK Q (SX Q Q (aM TK Q Q Q) (SA TK Q (SA TK Q (TN (WT ?_))))));exact⟨[0,1],Q,k0,bE (aK (aL (by first|(simp [hq8,hq9];done)|(simp only [hq8,hq9];simp))) Q) Q⟩
   iterate 5 (refine SA TK Q ?_)
   refine TN (WT ?_);exact⟨[0,1],Q,k0,bE (aK (aL (by first|(simp [hq8,hq9];done)|(simp only [hq8,hq9];simp))) Q) Q⟩
  iterate 11 (refine SA TK Q ?_)
  refine TN (WT ?_);exact⟨[0,1],Q,k0,bE (aK (aL (by first|(simp [hq8];done)|(simp only [hq8];simp))) Q) Q⟩
 refine WN [2,3,42] Q Q ?_;refine TC _ Q (λh10=>?_) (λh10=>?_)
 ·replace hm:=JA h10 hm;refine RS (SA TK Q (TN (WN [4] Q Q (TR (WR ?_)))));obtain rfl:=OJ hm;exact EndsS.one _ Q (.d _) (.refl _)
 replace hm:=JB h10 hm;refine TS (WT (WN [2,3] Q Q (RS (s_ala (f:=D.bool) (x:=false) 2 23 Q Q zAO Q Q Q (TN (WN [2,3,5] Q Q ?_))))));refine bK hm (λb11=>([]:Fr)) (λb11=>([(2,.flat 247 1 (b11.map D.bool))]:List (Nat×Blk))) [] [2,3] Q (λz12 hm hz12=>?_) (λb11 hm=>?_)
 ·refine RS ?_;iterate 4 (refine SA TK Q ?_)
  refine SX Q Q (cX [.tmp 44,.tmp 46] TK Q Q qDB Q Q Q Q Q) (BE hm λr13 hr13 hm=>SX Q Q (RN Q Q (SC (.d _) SN) (iR hr13)) (SX Q Q (aM TK Q Q Q) (SA TK Q (TN (WN [2,3,5,48,49,50] Q Q (TB (aO hm (λ(x17,b18)=>([(50,.d (.int .i64 x17))]:Fr)) (λ(x17,b18)=>([(2,.flat 247 1 (b18.map D.bool))]:List (Nat×Blk))) [50] [2,3,5,48,49] [0,1,2] Q k0 Q Q Q Q Q (λs z19 hm hz19=>?_))))))));obtain⟨x17,b18⟩:=s;refine WN [2,3,5,48,49,50] Q Q (RS (SA TK Q (TN (WN [2,3,5,48,49,50,51] Q Q (TQ ?_)))));refine TC _ Q (λh20=>?_) (λh20=>?_)
  ·replace hm:=JT h20 hm;refine TS (WT (WN [2,3,5,48,49,50] Q Q (TQ (TB (RS (VE hm λe21 he21 hm=>SX Q Q (bF TK Q Q Q Q he21) (SA TK Q (SA TK Q ?_))))))));refine TN (WN [2,3,5,7,48,49,50] Q Q (TQ ?_));refine aH hm (λx22=>([(63,.d (.bool (x22)))]:Fr)) (λx22=>([]:List (Nat×Blk))) [63] [2,3,5,7,48,49,50] Q (λz23 hm=>?_) (λx22 hm=>?_)
   ·refine TG (SA TK Q (SA TK Q (SA TK Q (BE hm λr24 hr24 hm=>SX Q Q (RN Q Q (SC (.d _) (SC (.d _) SN)) (gH hr24)) (SA TK Q (SB TK Q (λq25 hq25=>?_)))))));cases q25
    ·replace hm:=JB hq25 hm;refine SA TK Q (GE hm λg27 hm=>VE hm λe26 he26 hm=>SX Q Q (zFI Q qRO Q Q he26 g27) (SX Q Q (wG TK Q Q Q Q he26.2 Q) (SA TK Q (TN (WT ?_)))));exact⟨_,[0,1,2],(SJ hm),Q,k0,Q⟩
    replace hm:=JA hq25 hm;iterate 4 (refine SA TK Q ?_)
    refine TN (WT ?_);exact⟨_,[0,1,2],(SJ hm),Q,k0,Q⟩
   refine WN [2,3,5,7,48,49,50,63] Q Q ?_;refine TC _ Q (λh28=>?_) (λh28=>?_)
   ·replace hm:=JA h28 hm;refine RS (SA TK Q (TN (WN [4] Q Q (TR (WR (WB (WR (IE hm λv29 hm hz=>?_))))))));rw [hz19 _ hz] at hm;refine WR (WB (IE hm λv30 hm hz=>?_));rw [hz12 _ hz] at hm;refine WR ?_;obtain rfl:=OJ hm;exact EndsS.one _ Q (.d _) (.refl _)
   replace hm:=JB h28 hm;refine TS (WT (WN [2,3,5,7,48,49,50] Q Q (TG (SA TK Q (GE hm λg32 hm=>VE hm λe31 he31 hm=>SX Q Q (zFI Q qRO Q Q he31 g32) (qGX (x':=true) TK Q Q Q Q Q he31.2 Q Q Q ?_))))));refine TN (WK (WT (WN [2,3,5,48,49,50] Q Q (TG (GE hm λg33 hm=>SX Q Q (aU Q Q Q Q g33) (SA TK Q (TN ?_)))))));refine WT ?_;exact⟨_,[0,1,2],(SJ hm),Q,k0,Q⟩
  replace hm:=JF h20 hm;refine aE (WX (IE hm λv34 hm hz=>?_));rw [hz19 _ hz] at hm;refine WX (WH (WT ?_));exact⟨_,[0,1,2],(SJ hm),Q,k0,Q⟩
 refine WN [2,3] Q Q ?_;refine aH hm (λx35=>([(4,.d (.bool (x35)))]:Fr)) (λx35=>([]:List (Nat×Blk))) [4] [] Q (λz36 hm=>?_) (λx35 hm=>?_)
 ·refine TG ?_;iterate 4 (refine SA TK Q ?_)
  refine BE hm λr37 hr37 hm=>SX Q Q (RN Q Q (SC (.d _) (SC (.d _) SN)) (gH hr37)) (SB TK Q (λq38 hq38=>?_));cases q38
  ·replace hm:=JB hq38 hm;iterate 5 (refine SA TK Q ?_)
   refine TN (WT ?_);exact⟨_,[0,1,2],(SJ hm),Q,k0,Q⟩
  replace hm:=JA hq38 hm;iterate 5 (refine SA TK Q ?_)
  refine TN (WT ?_);exact⟨_,[0,1,2],(SJ hm),Q,k0,Q⟩
 refine WN [4] Q Q (TR ?_);obtain rfl:=OJ hm;exact EndsS.one _ Q (.d _) (.refl _)
theorem eJ {p0:(List Int)} {p1:Int} {r:Int} (hm:dC p0 p1=some r):RetN Tryz.prog 95 [.sl 1 (p0.map (D.int .i64)),.int .i64 p1] (.int .i64 r):=by
 refine .unit (aG zCV Tryz.func95 Q Tryz.ntmps95 Q Q (λwX gX=>?_)) Q;unfold dC at hm;refine WN [0,1] Q Q (RS (SA TK Q (TN (WN [0,1] Q Q ?_))));refine bK hm (λ_=>([]:Fr)) (λ_=>([]:List (Nat×Blk))) [] [] Q (λz1 hm hz1=>?_) (λj hm=>?_)
 ·refine RS (SA TK Q (SX Q Q (aM TK Q Q Q) (SA TK Q (TN (WN [0,1,7,8] Q Q (TB (aO hm (λx3=>([(8,.d (.int .i64 x3))]:Fr)) (λx3=>([]:List (Nat×Blk))) [8] [0,1,7] [] Q k0 Q Q Q Q Q (λx3 z4 hm hz4=>WN [0,1,7,8] Q Q ?_))))))));refine RS (SA TK Q (TN (WN [0,1,7,8,9] Q Q (TQ ?_))));refine TC _ Q (λh5=>?_) (λh5=>?_)
  ·replace hm:=JT h5 hm;refine TS (WT (WN [0,1,7,8] Q Q (TQ (TB (RS (SA TK Q (SA TK Q (TN (WN [0,1,5,7,8] Q Q ?_)))))))));refine RS (SA TK Q (SA TK Q (SA TK Q (VE hm λe6 he6 hm=>SX Q Q (bF TK Q Q Q Q he6) (SA TK Q (SA TK Q (TN (WN [0,1,5,7,8,16] Q Q ?_))))))));refine TC _ Q (λh7=>?_) (λh7=>?_)
   ·replace hm:=JT h7 hm;refine RS (SA TK Q (SA TK Q (TN (WN [4] Q Q (TR (WB (WR (IE hm λv8 hm hz=>?_))))))));rw [hz4 _ hz] at hm;refine WR (WB (IE hm λv9 hm hz=>?_));rw [hz1 _ hz] at hm;refine WR ?_;obtain rfl:=OJ hm;exact EndsS.one _ Q (.d _) (.refl _)
   replace hm:=JF h7 hm;refine TS (WK (WT (WN [0,1,7,8] Q Q (TG (GE hm λg10 hm=>SX Q Q (aU Q Q Q Q g10) (SA TK Q (TN ?_)))))));refine WT ?_;exact⟨_,[],(SJ hm),Q,k0,Q⟩
  replace hm:=JF h5 hm;refine aE (WX (IE hm λv11 hm hz=>?_));rw [hz4 _ hz] at hm;refine WX (WH (WT ?_));exact⟨_,[],(SJ hm),Q,k0,Q⟩
 refine WN [] Q Q (RS (SA TK Q (TN (WN [4] Q Q (TR ?_)))));obtain rfl:=OJ hm;exact EndsS.one _ Q (.d _) (.refl _)
theorem gW {p0:Table} {p1:Int} {r:Int} (hm:fF p0 p1=some r):RetN Tryz.prog 103 [p0.enc,.int .i64 p1] (.int .i64 r):=by
 refine .unit (aG qZY Tryz.func103 Q Tryz.ntmps103 Q Q (λwX gX=>?_)) Q;unfold fF at hm;refine WN [0,1] Q Q (RS (cM 0 Q Q Q (SA TK Q (TN (WN [1,2] Q Q (RS (SA TK Q (SA TK Q (SA TK Q (BE hm λr1 hr1 hm=>?_))))))))));refine SX Q Q (RN Q Q (SC (.d _) (SC (.d _) SN)) (eJ hr1)) (SA TK Q (TN (WN [4] Q Q (TR ?_))));obtain rfl:=OJ hm;exact EndsS.one _ Q (.d _) (.refl _)
theorem jK {p0:Table} {p1:(List Setting)} {r:Bool} (hm:dL p0 p1=some r):RetN Tryz.prog 211 [p0.enc,.sl 2 (p1.map Setting.enc)] (.bool (r)):=by
 refine .unit (aG qXA Tryz.func211 Q Tryz.ntmps211 Q Q (λwX gX=>?_)) Q;unfold dL at hm;refine WN [0,1] Q Q (RS (cM 0 Q Q Q (SA TK Q (TN (WN [1,2] Q Q ?_)))));refine bK hm (λ_=>([]:Fr)) (λ_=>([]:List (Nat×Blk))) [] [] Q (λz1 hm hz1=>?_) (λj hm=>?_)
 ·refine RS (SA TK Q (SX Q Q (aM TK Q Q Q) (SA TK Q (TN (WN [1,2,7,8,9] Q Q (TB (aO hm (λx3=>([(9,.d (.int .i64 x3))]:Fr)) (λx3=>([]:List (Nat×Blk))) [9] [1,2,7,8] [0] Q k0 Q Q Q Q Q (λx3 z4 hm hz4=>WN [1,2,7,8,9] Q Q ?_))))))));refine RS (SA TK Q (TN (WN [1,2,7,8,9,10] Q Q (TQ ?_))));refine TC _ Q (λh5=>?_) (λh5=>?_)
  ·replace hm:=JT h5 hm;refine TS (WT (WN [1,2,7,8,9] Q Q (TQ (TB (RS (SA TK Q (VE hm λe6 he6 hm=>SX Q Q (bF TK Q Q Q Q he6) ?_)))))));refine SA TK Q (cF 1 Q Q cS Q (SA TK Q (SA TK Q (TN (WN [1,2,5,6,7,8,9] Q Q (TQ ?_))))));refine aH hm (λx7=>([(33,.d (.bool (x7)))]:Fr)) (λx7=>([]:List (Nat×Blk))) [33] [1,2,6,7,8,9] Q (λz8 hm=>?_) (λx7 hm=>?_)
   ·refine bW follows  ?_;iterate 2 (refine DA [0,1] TK Q ?_)
    refine d_b [0,1] TK Q (λq9 hq9=>?_);cases q9
    ·replace hm:=JF hq9 hm;iterate 14 (refine DA [0,1] TK Q ?_)
     refine BE hm λr10 hr10 hm=>DX [0,1] Q Q (RN Q Q (SC (.d _) (SC (.d _) SN)) (gW hr10)) ?_;iterate 2 (refine DA [0,1] TK Q ?_)
     refine DT ?_ (by kernel_rfl);refine TN (WT ?_);exact⟨_,[0,1],(SJ hm),Q,k0,Q⟩
    replace hm:=JT hq9 hm;iterate 4 (refine DA [0,1] TK Q ?_)
    refine GE hm λg11 hm=>DX [0,1] Q Q (aU Q Q Q Q g11) (VE hm λe12 he12 hm=>DX [0,1] Q Q (bF TK Q Q Q Q he12) ?_);iterate 4 (refine DA [0,1] TK Q ?_)
    refine d_b [0,1] TK Q (λq13 hq13=>?_);cases q13
    ·replace hm:=JF hq13 hm;iterate 3 (refine DA [0,1] TK Q ?_)
     refine BE hm λr14 hr14 hm=>DX [0,1] Q Q (RN Q Q (SC (.d _) (SC (.d _) SN)) (gW hr14)) ?_;iterate 2 (refine DA [0,1] TK Q ?_)
     refine DT ?_ (by kernel_rfl);refine TN (WT ?_);exact⟨_,[0,1],(SJ hm),Q,k0,Q⟩
    replace hm:=JT hq13 hm;iterate 6 (refine DA [0,1] TK Q ?_)
    refine DT ?_ (by kernel_rfl);refine TN (WT ?_);exact⟨_,[0,1],(SJ hm),Q,k0,Q⟩
   refine WN [1,2,6,7,8,9,33] Q Q ?_;refine TC _ Q (λh15=>?_) (λh15=>?_)
   ·replace hm:=JA h15 hm;refine RS (SA TK Q (TN (WN [4] Q Q (TR (WR (WB (WR (IE hm λv16 hm hz=>?_))))))));rw [hz4 _ hz] at hm;refine WR (WB (IE hm λv17 hm hz=>?_));rw [hz1 _ hz] at hm;refine WR ?_;obtain rfl:=OJ hm;exact EndsS.one _ Q (.d _) (.refl _)
   replace hm:=JB h15 hm;refine TS (WT (WN [1,2,6,7,8,9] Q Q ?_));refine fM [(41,.d (.bool (((!(decide (e6.pos=(1:Int))))&&(!(decide (e6.pos=(2:Int))))))))] [41] [1,2,7,8,9] Q ?_ ?_
   ·refine TG (SA TK Q (SA TK Q (SA TK Q (SB TK Q (λq18 hq18=>?_)))));cases q18
    ·iterate 4 (refine SA TK Q ?_)
     refine TN (WT ?_);exact⟨[0,1],Q,k0,bE (aK (aL (by first|(simp [hq18];done)|(simp only [hq18];simp))) Q) Q⟩
    iterate 4 (refine SA TK Q ?_)
    refine TN (WT ?_);exact⟨[0,1],Q,k0,bE (aK (aL (by first|(simp [hq18];done)|(simp only [hq18];simp))) Q) Q⟩
   refine WN [1,2,7,8,9,41] Q Q ?_;refine TC _ Q (λh19=>?_) (λh19=>?_)
   ·replace hm:=JA h19 hm;refine RS (SA TK Q (TN (WN [4] Q Q (TR (WB (WR (IE hm λv20 hm hz=>?_)))))));rw [hz4 _ hz] at hm;refine WR (WB (IE hm λv21 hm hz=>?_));rw [hz1 _ hz] at hm;refine WR ?_;obtain rfl:=OJ hm;exact EndsS.one _ Q (.d _) (.refl _)
   replace hm:=JB h19 hm;refine TS (WK (WT (WN [1,2,7,8,9] Q Q (TG (GE hm λg22 hm=>SX Q Q (aU Q Q Q Q g22) (SA TK Q (TN ?_)))))));refine WT ?_;exact⟨_,[0],(SJ hm),Q,k0,Q⟩
  replace hm:=JF h5 hm;refine aE (WX (IE hm λv23 hm hz=>?_));rw [hz4 _ hz] at hm;refine WX (WH (WT ?_));exact⟨_,[0],(SJ hm),Q,k0,Q⟩
 refine WN [] Q Q (RS (SA TK Q (TN (WN [4] Q Q (TR ?_)))));obtain rfl:=OJ hm;exact EndsS.one _ Q (.d _) (.refl _)
theorem mM {p0:(List Setting)} {p1:(List Setting)} {r:Bool} (hm:fD p0 p1=some r):RetN Tryz.prog 212 [.sl 2 (p0.map Setting.enc),.sl 2 (p1.map Setting.enc)] (.bool (r)):=by
 refine .unit (aG qWZ Tryz.func212 Q Tryz.ntmps212 Q Q (λwX gX=>?_)) Q;unfold fD at hm;refine WN [0,1] Q Q (RS (SA TK Q (TN (WN [0,1] Q Q ?_))));refine bK hm (λ_=>([]:Fr)) (λ_=>([]:List (Nat×Blk))) [] [] Q (λz1 hm hz1=>?_) (λj hm=>?_)
 ·refine RS (SA TK Q (SX Q Q (aM TK Q Q Q) (SA TK Q (TN (WN [1,9,10,11] Q Q (TB (aO hm (λx3=>([(11,.d (.int .i64 x3))]:Fr)) (λx3=>([]:List (Nat×Blk))) [11] [1,9,10] [] Q k0 Q Q Q Q Q (λx3 z4 hm hz4=>WN [1,9,10,11] Q Q ?_))))))));refine RS (SA TK Q (TN (WN [1,9,10,11,12] Q Q (TQ ?_))));refine TC _ Q (λh5=>?_) (λh5=>?_)
  ·replace hm:=JT h5 hm;refine TS (WT (WN [1,9,10,11] Q Q ?_));refine bK hm (λ_=>([]:Fr)) (λ_=>([]:List (Nat×Blk))) [] [1,9,10,11] Q (λz6 hm hz6=>?_) (λj hm=>?_)
   ·refine TB (RS (VE hm λe7 he7 hm=>SX Q Q (bF TK Q Q Q Q he7) (SA TK Q (cF 0 Q Q cS Q (SA TK Q (TN (WN [1,6,9,10,11] Q Q ?_)))))));refine RS (SA TK Q (SX Q Q (aM TK Q Q Q) (SA TK Q (TN (WN [1,6,9,10,11,15,16,17] Q Q (TB (aO hm (λx9=>([(17,.d (.int .i64 x9))]:Fr)) (λx9=>([]:List (Nat×Blk))) [17] [1,6,9,10,11,15,16] [0] Q k0 Q Q Q Q Q (λx9 z10 hm hz10=>WN [1,6,9,10,11,15,16,17] Q Q ?_))))))));refine RS (SA TK Q (TN (WN [1,6,9,10,11,15,16,17,18] Q Q (TQ ?_))));refine TC _ Q (λh11=>?_) (λh11=>?_)
    ·replace hm:=JT h11 hm;refine TS (WT (WN [1,6,9,10,11,15,16,17] Q Q (TQ (TB (RS (VE hm λe12 he12 hm=>SX Q Q (bF TK Q Q Q Q he12) (SA TK Q ?_)))))));refine cF 1 Q Q cS Q (SA TK Q (TN (WN [1,6,8,9,10,11,15,16,17] Q Q ?_)));refine fM [(32,.d (.bool (((decide (e7.el=e12.el))&&(!(decide (e7.pos=e12.pos)))))))] [32] [1,6,9,10,11,15,16,17] Q ?_ ?_
     ·refine TG ?_;iterate 5 (refine SA TK Q ?_)
      refine SB TK Q (λq13 hq13=>?_);cases q13
      ·iterate 6 (refine SA TK Q ?_)
       refine TN (WT ?_);exact⟨[0,1],Q,k0,bE (aK (aL (by first|(simp [hq13];done)|(simp only [hq13];simp))) Q) Q⟩
      iterate 6 (refine SA TK Q ?_)
      refine TN (WT ?_);exact⟨[0,1],Q,k0,bE (aK (aL (by first|(simp [hq13];done)|(simp only [hq13];simp))) Q) Q⟩
     refine WN [1,6,9,10,11,15,16,17,32] Q Q ?_;refine TC _ Q (λh14=>?_) (λh14=>?_)
     ·replace hm:=JA h14 hm;refine RS (SA TK Q (TN (WN [4] Q Q (TR (WB (WR (IE hm λv15 hm hz=>?_)))))));rw [hz10 _ hz] at hm;refine WR (WB (WB (IE hm λv16 hm hz=>?_)));rw [hz6 _ hz] at hm;refine WR (IE hm λv17 hm hz=>?_);rw [hz4 _ hz] at hm;refine WR (WB (IE hm λv18 hm hz=>?_));rw [hz1 _ hz] at hm;refine WR ?_;obtain rfl:=OJ hm;exact EndsS.one _ Q (.d _) (.refl _)
     replace hm:=JB h14 hm;refine TS (WK (WT (WN [1,6,9,10,11,15,16,17] Q Q (TG (GE hm λg19 hm=>SX Q Q (aU Q Q Q Q g19) (SA TK Q (TN ?_)))))));refine WT ?_;exact⟨_,[0],(SJ hm),Q,k0,Q⟩
    replace hm:=JF h11 hm;refine aE (WX (IE hm λv20 hm hz=>?_));rw [hz10 _ hz] at hm;refine WX (WH (WK (WT ?_)));exact⟨_,[],(SJ hm),Q,k0,Q⟩
   refine WN [1,9,10,11] Q Q (TG (GE hm λg21 hm=>SX Q Q (aU Q Q Q Q g21) (SA TK Q (TN (WT ?_)))));exact⟨_,[],(SJ hm),Q,k0,Q⟩
  replace hm:=JF h5 hm;refine aE (WX (IE hm λv22 hm hz=>?_));rw [hz4 _ hz] at hm;refine WX (WH (WT ?_));exact⟨_,[],(SJ hm),Q,k0,Q⟩
 refine WN [] Q Q (RS (SA TK Q (TN (WN [4] Q Q (TR ?_)))));obtain rfl:=OJ hm;exact EndsS.one _ Q (.d _) (.refl _)
theorem qFO {p0:Table} {r:Int} (hm:mX p0=some r):RetN Tryz.prog 156 [p0.enc] (.int .i64 r):=by
 refine .unit (aG qZA Tryz.func156 Q Tryz.ntmps156 Q Q (λwX gX=>?_)) Q;unfold mX at hm;refine WN [0] Q Q (RS (cM 0 Q Q Q (SA TK Q (TN (WN [1] Q Q (TQ ?_))))));refine aH hm (λx1=>([(33,.d (.bool (x1)))]:Fr)) (λx1=>([]:List (Nat×Blk))) [33] [1] Q (λz2 hm=>?_) (λx1 hm=>?_)
 ·refine TG (SA TK Q (SA TK Q (SX Q Q (aM TK Q Q Q) (SA TK Q (SB TK Q (λq3 hq3=>?_))))));cases q3
  ·replace hm:=JF hq3 hm;refine SA TK Q (SA TK Q (SX Q Q (aM TK Q Q Q) (SA TK Q (SA TK Q (SB TK Q (λq4 hq4=>?_))))));cases q4
   ·replace hm:=JF hq4 hm;refine SA TK Q (SA TK Q (BE hm λr5 hr5 hm=>SX Q Q (RN Q Q (SC (.d _) (SC (.d _) SN)) (gH hr5)) (SA TK Q (SA TK Q (SB TK Q (λq6 hq6=>?_))))));cases q6
    ·replace hm:=JB hq6 hm;refine SA TK Q (SA TK Q (BE hm λr7 hr7 hm=>SX Q Q (RN Q Q (SC (.d _) (SC (.d _) SN)) (gH hr7)) (SA TK Q (SA TK Q (TN (WT ?_))))));exact⟨_,[0],(SJ hm),Q,k0,Q⟩
    replace hm:=JA hq6 hm;iterate 5 (refine SA TK Q ?_)
    refine TN (WT ?_);exact⟨_,[0],(SJ hm),Q,k0,Q⟩
   replace hm:=JT hq4 hm;iterate 11 (refine SA TK Q ?_)
   refine TN (WT ?_);exact⟨_,[0],(SJ hm),Q,k0,Q⟩
  replace hm:=JT hq3 hm;iterate 17 (refine SA TK Q ?_)
  refine TN (WT ?_);exact⟨_,[0],(SJ hm),Q,k0,Q⟩
 refine WN [1,33] Q Q ?_;refine TC _ Q (λh8=>?_) (λh8=>?_)
 ·replace hm:=JA h8 hm;refine RS (SA TK Q (TN (WN [2] Q Q (TR (WR ?_)))));obtain rfl:=OJ hm;exact EndsS.one _ Q (.d _) (.refl _)
 replace hm:=JB h8 hm;refine TS (WT (WN [1] Q Q (TQ (RS (SA TK Q (BE hm λr9 hr9 hm=>SX Q Q (RN Q Q (SC (.d _) SN) (wB hr9)) (SA TK Q ?_)))))));refine TN (WN [1,36] Q Q ?_);refine TC _ Q (λh10=>?_) (λh10=>?_)
 ·replace hm:=JA h10 hm;refine RS (SA TK Q (TN (WN [2] Q Q (TR (WR ?_)))));obtain rfl:=OJ hm;exact EndsS.one _ Q (.d _) (.refl _)
 replace hm:=JB h10 hm;refine TS (WT (WN [1] Q Q ?_));refine bK hm (λ_=>([]:Fr)) (λ_=>([]:List (Nat×Blk))) [] [1] Q (λz11 hm hz11=>?_) (λj hm=>?_)
 ·refine RS (SA TK Q (SA TK Q (SX Q Q (aM TK Q Q Q) (SA TK Q (TN (WN [1,38,39,40] Q Q (TB (aO hm (λx13=>([(40,.d (.int .i64 x13))]:Fr)) (λx13=>([]:List (Nat×Blk))) [40] [1,38,39] [0] Q k0 Q Q Q Q Q (λx13 z14 hm hz14=>WN [1,38,39,40] Q Q ?_)))))))));refine RS (SA TK Q (TN (WN [1,38,39,40,41] Q Q (TQ ?_))));refine TC _ Q (λh15=>?_) (λh15=>?_)
  ·replace hm:=JT h15 hm;refine TS (WT (WN [1,38,39,40] Q Q (TQ (TB (RS (VE hm λe16 he16 hm=>SX Q Q (bF TK Q Q Q Q he16) (SA TK Q ?_)))))));refine cF 1 Q Q fL Q (cN 1 [none,none,none,some 3,some 2,some 1,none,none,some 3,some 2,some 1,some 2,some 1,some 2] Q Q (SA TK Q (TN (WN [1,4,38,39,40] Q Q (RS (SA TK Q (SA TK Q (BE hm λr17 hr17 hm=>SX Q Q (RN Q Q (SC (.d _) (SC (.d _) SN)) (wZ hr17)) ?_))))))));refine SA TK Q (TN (WN [1,38,39,40,47] Q Q ?_));refine TC _ Q (λh18=>?_) (λh18=>?_)
   ·replace hm:=JA h18 hm;refine RS (SA TK Q (TN (WN [2] Q Q (TR (WB (WR (IE hm λv19 hm hz=>?_)))))));rw [hz14 _ hz] at hm;refine WR (WB (IE hm λv20 hm hz=>?_));rw [hz11 _ hz] at hm;refine WR ?_;obtain rfl:=OJ hm;exact EndsS.one _ Q (.d _) (.refl _)
   replace hm:=JB h18 hm;refine TS (WK (WT (WN [1,38,39,40] Q Q (TG (GE hm λg21 hm=>SX Q Q (aU Q Q Q Q g21) (SA TK Q (TN ?_)))))));refine WT ?_;exact⟨_,[0],(SJ hm),Q,k0,Q⟩
  replace hm:=JF h15 hm;refine aE (WX (IE hm λv22 hm hz=>?_));rw [hz14 _ hz] at hm;refine WX (WH (WT ?_));exact⟨_,[0],(SJ hm),Q,k0,Q⟩
 refine WN [1] Q Q ?_;refine bK hm (λ_=>([]:Fr)) (λ_=>([]:List (Nat×Blk))) [] [1] Q (λz23 hm hz23=>?_) (λj hm=>?_)
 ·refine RS (SA TK Q (SA TK Q (SX Q Q (aM TK Q Q Q) (SA TK Q (TN (WN [1,50,51,52] Q Q (TB (aO hm (λx25=>([(52,.d (.int .i64 x25))]:Fr)) (λx25=>([]:List (Nat×Blk))) [52] [1,50,51] [0] Q k0 Q Q Q Q Q (λx25 z26 hm hz26=>WN [1,50,51,52] Q Q ?_)))))))));refine RS (SA TK Q (TN (WN [1,50,51,52,53] Q Q (TQ ?_))));refine TC _ Q (λh27=>?_) (λh27=>?_)
  ·replace hm:=JT h27 hm;refine TS (WT (WN [1,50,51,52] Q Q (TQ (TB (RS (VE hm λe28 he28 hm=>SX Q Q (bF TK Q Q Q Q he28) (SA TK Q ?_)))))));refine cF 1 Q Q fL Q (cN 1 [none,none,none,some 3,some 2,some 1,none,none,some 3,some 2,some 1,some 2,some 1,some 2] Q Q (SA TK Q (TN (WN [1,6,50,51,52] Q Q ?_))));refine aH hm (λx29=>([(74,.d (.bool (x29)))]:Fr)) (λx29=>([]:List (Nat×Blk))) [74] [1,50,51,52] Q (λz30 hm=>?_) (λx29 hm=>?_)
   ·refine TG (SA TK Q (SA TK Q (SA TK Q (BE hm λr31 hr31 hm=>SX Q Q (RN Q Q (SC (.d _) (SC (.d _) SN)) (jK hr31)) (SA TK Q (SB TK Q (λq32 hq32=>?_)))))));cases q32
    ·replace hm:=JB hq32 hm;refine SA TK Q (SA TK Q (SA TK Q (BE hm λr33 hr33 hm=>SX Q Q (RN Q Q (SC (.d _) (SC (.d _) SN)) (jK hr33)) (SA TK Q (SA TK Q (SB TK Q (λq34 hq34=>?_)))))));cases q34
     ·replace hm:=JB hq34 hm;refine SA TK Q (SA TK Q (SA TK Q (BE hm λr35 hr35 hm=>SX Q Q (RN Q Q (SC (.d _) (SC (.d _) SN)) (jK hr35)) (SA TK Q (SA TK Q (TN (WT ?_)))))));exact⟨_,[0,1],(SJ hm),Q,k0,Q⟩
     replace hm:=JA hq34 hm;iterate 6 (refine SA TK Q ?_)
     refine TN (WT ?_);exact⟨_,[0,1],(SJ hm),Q,k0,Q⟩
    replace hm:=JA hq32 hm;iterate 13 (refine SA TK Q ?_)
    refine TN (WT ?_);exact⟨_,[0,1],(SJ hm),Q,k0,Q⟩
   refine WN [1,50,51,52,74] Q Q ?_;refine TC _ Q (λh36=>?_) (λh36=>?_)
   ·replace hm:=JA h36 hm;refine RS (SA TK Q (TN (WN [2] Q Q (TR (WB (WR (IE hm λv37 hm hz=>?_)))))));rw [hz26 _ hz] at hm;refine WR (WB (IE hm λv38 hm hz=>?_));rw [hz23 _ hz] at hm;refine WR ?_;obtain rfl:=OJ hm;exact EndsS.one _ Q (.d _) (.refl _)
   replace hm:=JB h36 hm;refine TS (WK (WT (WN [1,50,51,52] Q Q (TG (GE hm λg39 hm=>SX Q Q (aU Q Q Q Q g39) (SA TK Q (TN ?_)))))));refine WT ?_;exact⟨_,[0],(SJ hm),Q,k0,Q⟩
  replace hm:=JF h27 hm;refine aE (WX (IE hm λv40 hm hz=>?_));rw [hz26 _ hz] at hm;refine WX (WH (WT ?_));exact⟨_,[0],(SJ hm),Q,k0,Q⟩
 refine WN [1] Q Q ?_;refine bK hm (λ_=>([]:Fr)) (λ_=>([]:List (Nat×Blk))) [] [1] Q (λz41 hm hz41=>?_) (λj hm=>?_)
 ·refine RS (SA TK Q (SA TK Q (SX Q Q (aM TK Q Q Q) (SA TK Q (TN (WN [1,77,78,79] Q Q (TB (aO hm (λx43=>([(79,.d (.int .i64 x43))]:Fr)) (λx43=>([]:List (Nat×Blk))) [79] [1,77,78] [0] Q k0 Q Q Q Q Q (λx43 z44 hm hz44=>WN [1,77,78,79] Q Q ?_)))))))));refine RS (SA TK Q (TN (WN [1,77,78,79,80] Q Q (TQ ?_))));refine TC _ Q (λh45=>?_) (λh45=>?_)
  ·replace hm:=JT h45 hm;refine TS (WT (WN [1,77,78,79] Q Q (TQ (TB (RS (VE hm λe46 he46 hm=>SX Q Q (bF TK Q Q Q Q he46) (SA TK Q ?_)))))));refine cF 1 Q Q fL Q (cN 1 [none,none,none,some 3,some 2,some 1,none,none,some 3,some 2,some 1,some 2,some 1,some 2] Q Q (SA TK Q (TN (WN [1,8,77,78,79] Q Q ?_))));refine aH hm (λx47=>([(104,.d (.bool (x47)))]:Fr)) (λx47=>([]:List (Nat×Blk))) [104] [1,77,78,79] Q (λz48 hm=>?_) (λx47 hm=>?_)
   ·refine TG ?_;iterate 4 (refine SA TK Q ?_)
    refine BE hm λr49 hr49 hm=>SX Q Q (RN Q Q (SC (.d _) (SC (.d _) SN)) (mM hr49)) (SA TK Q (SB TK Q (λq50 hq50=>?_)));cases q50
    ·replace hm:=JB hq50 hm;iterate 4 (refine SA TK Q ?_)
     refine BE hm λr51 hr51 hm=>SX Q Q (RN Q Q (SC (.d _) (SC (.d _) SN)) (mM hr51)) (SA TK Q (SA TK Q (SB TK Q (λq52 hq52=>?_))));cases q52
     ·replace hm:=JB hq52 hm;iterate 4 (refine SA TK Q ?_)
      refine BE hm λr53 hr53 hm=>SX Q Q (RN Q Q (SC (.d _) (SC (.d _) SN)) (mM hr53)) (SA TK Q (SA TK Q (TN (WT ?_))));exact⟨_,[0,1],(SJ hm),Q,k0,Q⟩
     replace hm:=JA hq52 hm;iterate 7 (refine SA TK Q ?_)
     refine TN (WT ?_);exact⟨_,[0,1],(SJ hm),Q,k0,Q⟩
    replace hm:=JA hq50 hm;iterate 15 (refine SA TK Q ?_)
    refine TN (WT ?_);exact⟨_,[0,1],(SJ hm),Q,k0,Q⟩
   refine WN [1,77,78,79,104] Q Q ?_;refine TC _ Q (λh54=>?_) (λh54=>?_)
   ·replace hm:=JA h54 hm;refine RS (SA TK Q (TN (WN [2] Q Q (TR (WB (WR (IE hm λv55 hm hz=>?_)))))));rw [hz44 _ hz] at hm;refine WR (WB (IE hm λv56 hm hz=>?_));rw [hz41 _ hz] at hm;refine WR ?_;obtain rfl:=OJ hm;exact EndsS.one _ Q (.d _) (.refl _)
   replace hm:=JB h54 hm;refine TS (WK (WT (WN [1,77,78,79] Q Q (TG (GE hm λg57 hm=>SX Q Q (aU Q Q Q Q g57) (SA TK Q (TN ?_)))))));refine WT ?_;exact⟨_,[0],(SJ hm),Q,k0,Q⟩
  replace hm:=JF h45 hm;refine aE (WX (IE hm λv58 hm hz=>?_));rw [hz44 _ hz] at hm;refine WX (WH (WT ?_));exact⟨_,[0],(SJ hm),Q,k0,Q⟩
 refine WN [1] Q Q (RS (qGY 9 4 Q (qUG 106 (.mmap 1) Q Q (SA TK Q (TN (WN [1,9] Q Q ?_))))));refine bK hm (λm59=>([]:Fr)) (λm59=>([(1,.map 9 4 (dA D.str D.bool m59))]:List (Nat×Blk))) [] [] Q (λz60 hm hz60=>?_) (λm59 hm=>?_)
 ·refine RS (SA TK Q (SA TK Q (SX Q Q (aM TK Q Q Q) (SA TK Q (TN (WN [9,108,109,110] Q Q (TB (aO hm (λ(x64,b65)=>([(110,.d (.int .i64 x64))]:Fr)) (λ(x64,b65)=>([(1,.map 9 4 (dA D.str D.bool b65))]:List (Nat×Blk))) [110] [9,108,109] [0,1] Q k0 Q Q Q Q Q (λs z66 hm hz66=>?_)))))))));obtain⟨x64,b65⟩:=s;refine WN [9,108,109,110] Q Q (RS (SA TK Q (TN (WN [9,108,109,110,111] Q Q (TQ ?_)))));refine TC _ Q (λh67=>?_) (λh67=>?_)
  ·replace hm:=JT h67 hm;refine TS (WT (WN [9,108,109,110] Q Q (TQ (TB (RS (VE hm λe68 he68 hm=>SX Q Q (bF TK Q Q Q Q he68) (SA TK Q ?_)))))));refine cF 2 Q Q fL Q (cN 2 [none,none,none,some 3,some 2,some 1,none,none,some 3,some 2,some 1,some 2,some 1,some 2] Q Q (SA TK Q (TN (WN [9,11,108,109,110] Q Q (TQ (RS (SA TK Q (SA TK Q (SA TK Q (GE hm λg69 hm=>?_))))))))));refine SX Q Q (qPX yW D.bool _ _ false Q qVH qPT Q Q Q Q g69) (TN (WN [9,11,108,109,110,117] Q Q ?_));refine TC _ Q (λh70=>?_) (λh70=>?_)
   ·replace hm:=JA h70 hm;refine RS (SA TK Q (TN (WN [2] Q Q (TR (WR (WB (WR (IE hm λv71 hm hz=>?_))))))));rw [hz66 _ hz] at hm;refine WR (WB (IE hm λv72 hm hz=>?_));rw [hz60 _ hz] at hm;refine WR ?_;obtain rfl:=OJ hm;exact EndsS.one _ Q (.d _) (.refl _)
   replace hm:=JB h70 hm;refine TS (WT (WN [9,11,108,109,110] Q Q (TG (SA TK Q (SA TK Q (SA TK Q (GE hm λg73 hm=>qUF yW D.bool qVH Q Q Q Q g73 (TN (WK ?_)))))))));refine WT (WN [9,108,109,110] Q Q (TG (GE hm λg74 hm=>SX Q Q (aU Q Q Q Q g74) (SA TK Q (TN (WT ?_))))));exact⟨_,[0,1],(SJ hm),Q,k0,Q⟩
  replace hm:=JF h67 hm;refine aE (WX (IE hm λv75 hm hz=>?_));rw [hz66 _ hz] at hm;refine WX (WH (WT ?_));exact⟨_,[0,1],(SJ hm),Q,k0,Q⟩
 refine WN [] Q Q (RS (SA TK Q (TN (WN [2] Q Q (TR ?_)))));obtain rfl:=OJ hm;exact EndsS.one _ Q (.d _) (.refl _)
theorem cD {p0:Numbering} {p1:Int} {r:Int} (hm:bH p0 p1=some r):RetN Tryz.prog 157 [p0.enc,.int .i64 p1] (.int .i64 r):=by
 refine .unit (aG qYZ Tryz.func157 Q Tryz.ntmps157 Q Q (λwX gX=>?_)) Q;unfold bH at hm;refine WN [0,1] Q Q (RS (cM 0 Q Q Q (SA TK Q (TN (WN [1,2] Q Q (RS ?_))))));iterate 4 (refine SA TK Q ?_)
 refine VE hm λe1 he1 hm=>SX Q Q (bF TK Q Q Q Q he1) (SA TK Q (SA TK Q (SX Q Q (aM TK Q Q Q) (GE hm λg2 hm=>SX Q Q (aU Q Q Q Q g2) (SA TK Q (TN (WN [4] Q Q ?_)))))));refine TR ?_;obtain rfl:=OJ hm;exact EndsS.one _ Q (.d _) (.refl _)
theorem qAY {p0:Table} {r0:Numbering} {r1:Int} (hm:iW p0=some (r0,r1)):RetT Tryz.prog 82 [p0.enc] [r0.enc,.int .i64 r1]:=by
 refine .of (mv:=λ_=>false) (gN zDI Tryz.func82 Q Tryz.ntmps82 Q Q (λwX gX=>?_));unfold iW at hm;refine WN [0] Q Q (RS (cM 0 Q Q Q (cF 1 Q Q vC Q (eB (f:=(D.int .i64)) 1 6 2 3 1 Q Q Q (cN 1 [some 14,some 1,some 1,none,none,none,none,none,none] Q Q (SA TK Q (TN (WN [1,2] Q Q ?_))))))));refine TQ (RS (SA TK Q (BE hm λr1 hr1 hm=>SX Q Q (RN Q Q (SC (.d _) SN) (qFO hr1)) (SA TK Q (TN (WN [1,2,4] Q Q (RS ?_)))))));refine SA TK Q (SA TK Q (TN (WN [1,2,4,10] Q Q ?_)));refine TC _ Q (λh2=>?_) (λh2=>?_)
 ·replace hm:=gO h2 hm;refine RS (SX Q Q (gK Q qOP vC Q Q Q Q) (SA TK Q (SA TK Q (eB (f:=(D.int .i64)) 1 6 3 3 1 Q Q Q (cN 1 [some 14,some 1,some 1,none,none,none,none,none,none] Q Q (SA TK Q (TN (WN [2,3] Q Q (TR ?_)))))))));refine WR ?_;obtain⟨rfl,rfl⟩:=Prod.mk.inj (Option.some.inj hm);exact⟨_,.mk _ (.cons (.agg (TK.lay Q) Q Q Q Q) (.cons (.tmp 3) .nil)) Q,(.cons (fG (.cons (.d _) Q (.cons (.d _) Q (.cons (.d _) Q (.cons (.d _) Q (.cons (.d _) Q (.cons (.d _) Q (.cons (bO Q) Q (.cons (.d _) Q (.cons (.d _) Q .nil)))))))))) (.refl _) (.cons (.d _) (.refl _) .nil))⟩
 replace hm:=gP h2 hm;refine TS (WT (WN [1,2] Q Q (RS (SA TK Q (SX Q Q (gK Q qOP vC Q Q Q Q) (cF 3 Q Q vC Q (eB (f:=(D.int .i64)) 3 6 4 3 1 Q Q Q (cN 3 [some 14,some 1,some 1,none,none,none,none,none,none] Q Q ?_))))))));refine SA TK Q (eB (f:=(D.int .i64)) 3 6 5 3 1 Q Q Q (TN (WN [1,2,5] Q Q (RS (SA TK Q (SA TK Q (GE hm λg3 hm=>SX Q Q (aU Q Q Q Q g3) (SA TK Q (SA TK Q ?_)))))))));refine SX Q Q (aM TK Q Q Q) (GE hm λg4 hm=>SX Q Q (aU Q Q Q Q g4) (GE hm λg5 hm=>SX Q Q (aU Q Q Q Q g5) (SA TK Q (SA TK Q (SX Q Q (aM TK Q Q Q) (GE hm λg6 hm=>SX Q Q (aU Q Q Q Q g6) ?_))))));refine GE hm λg7 hm=>SX Q Q (aU Q Q Q Q g7) (SA TK Q (SA TK Q (TN (WN [1,2,5] Q Q (RS ?_)))));iterate 4 (refine SA TK Q ?_)
 refine SX Q Q (aM TK Q Q Q) (GE hm λg8 hm=>SX Q Q (aU Q Q Q Q g8) (SA TK Q (SA TK Q (TN (WN [1,2,5] Q Q ?_)))));refine aH hm (λ(c9,b10)=>([]:Fr)) (λ(c9,b10)=>([(3,.box 131 [.d (.sl 14 (p0.routes.map Route.enc)),.d (.sl 1 (p0.points.map (D.int .i64))),.d (.sl 1 (p0.homes.map (D.int .i64))),.d (.int .i64 p0.sections),.d (.int .i64 p0.signals),.d (.int .i64 ((((2:Int) * p0.sections)+((2:Int) * (p0.points.length:Int)))+((4:Int) * (p0.routes.length:Int)))),.msl 5 1 0 b10.length,.d (.int .i64 c9),.d (.int .i64 (0:Int))]),(5,.flat 3 1 (b10.map (D.int .i64)))]:List (Nat×Blk))) [] [1,2,5] Q (λz11 hm=>?_) (λj hm=>?_)
 ·refine RS (SA TK Q (SA TK Q (SX Q Q (aM TK Q Q Q) (SA TK Q (TN (WN [1,2,5,38,39] Q Q (TB (aO hm (λ(x16,c17,b18)=>([(39,.d (.int .i64 x16))]:Fr)) (λ(x16,c17,b18)=>([(3,.box 131 [.d (.sl 14 (p0.routes.map Route.enc)),.d (.sl 1 (p0.points.map (D.int .i64))),.d (.sl 1 (p0.homes.map (D.int .i64))),.d (.int .i64 p0.sections),.d (.int .i64 p0.signals),.d (.int .i64 ((((2:Int) * p0.sections)+((2:Int) * (p0.points.length:Int)))+((4:Int) * (p0.routes.length:Int)))),.msl 5 1 0 b18.length,.d (.int .i64 c17),.d (.int .i64 (0:Int))]),(5,.flat 3 1 (b18.map (D.int .i64)))]:List (Nat×Blk))) [39] [1,2,5,38] [0,1,2,3,4,5] Q k0 Q Q Q Q Q (λs z19 hm hz19=>?_)))))))));obtain⟨x16,c17,b18⟩:=s;refine WN [1,2,5,38,39] Q Q (RS (SA TK Q (TN (WN [1,2,5,38,39,40] Q Q (TQ ?_)))));refine TC _ Q (λh20=>?_) (λh20=>?_)
  ·replace hm:=JT h20 hm;refine TS (WT (WN [1,2,5,38,39] Q Q (TQ (TB (RS (SA TK Q (SA TK Q (TN (WN [1,2,5,6,38,39] Q Q ?_)))))))));refine RS ?_;iterate 4 (refine SA TK Q ?_)
   refine SX Q Q (cX [.tmp 45] TK Q Q dY Q Q Q Q Q) (GE hm λg21 hm=>dM (f:=(D.int .i64)) ([c17]:List Int) TK Q Q dY Q Q Q Q Q (λh=>absurd h (zQV _)) Q dD g21 Q Q (SA TK Q (SA TK Q (TN (WN [1,2,5,6,38,39] Q Q (bW follows  ?_))))));iterate 4 (refine DA [0,1,2,3,4,5] TK Q ?_)
   refine BE hm λr22 hr22 hm=>DX [0,1,2,3,4,5] Q Q (RN Q Q (SC (fG (.cons (.d _) Q (.cons (.d _) Q (.cons (.d _) Q (.cons (.d _) Q (.cons (.d _) Q (.cons (.d _) Q (.cons (bO Q) Q (.cons (.d _) Q (.cons (.d _) Q .nil)))))))))) (SC (.d _) SN)) (cD hr22)) (GE hm λg23 hm=>DX [0,1,2,3,4,5] Q Q (aU Q Q Q Q g23) (GE hm λg24 hm=>DX [0,1,2,3,4,5] Q Q (aU Q Q Q Q g24) (GE hm λg25 hm=>DX [0,1,2,3,4,5] Q Q (aU Q Q Q Q g25) (DA [0,1,2,3,4,5] TK Q ?_))));refine DT ?_ (by kernel_rfl);refine SA TK Q (TN (WK (WT (WN [1,2,5,38,39] Q Q (TG (GE hm λg26 hm=>SX Q Q (aU Q Q Q Q g26) (SA TK Q ?_)))))));refine TN (WT ?_);exact⟨_,[0,1,2,3,4,5],(SJ hm),Q,k0,Q⟩
  replace hm:=JF h20 hm;refine aE (WX (IE hm λv27 hm hz=>?_));rw [hz19 _ hz] at hm;refine WX (WH (WT ?_));exact⟨_,[0,1,2,3,4,5],(SJ hm),Q,k0,Q⟩
 obtain⟨c9,b10⟩:=j;refine WN [1,2,5] Q Q (RS ?_);iterate 4 (refine SA TK Q ?_)
 refine SX Q Q (aM TK Q Q Q) (GE hm λg28 hm=>SX Q Q (aU Q Q Q Q g28) (GE hm λg29 hm=>SX Q Q (aU Q Q Q Q g29) (SA TK Q (SA TK Q (TN (WN [2,5] Q Q (TQ ?_)))))));refine RS (SA TK Q (SA TK Q (SA TK Q (TN (WN [2,5,69] Q Q ?_)))));refine TC _ Q (λh30=>?_) (λh30=>?_)
 ·replace hm:=JT h30 hm;refine RS (SX Q Q (gK Q qOP vC Q Q Q Q) (SA TK Q (eB (f:=(D.int .i64)) 1 6 6 3 1 Q Q Q (cN 1 [some 14,some 1,some 1,none,none,none,none,none,none] Q Q (SA TK Q (TN (WN [2,3] Q Q (TR ?_))))))));refine WR ?_;obtain⟨rfl,rfl⟩:=Prod.mk.inj (Option.some.inj hm);exact⟨_,.mk _ (.cons (.agg (TK.lay Q) Q Q Q Q) (.cons (.tmp 3) .nil)) Q,(.cons (fG (.cons (.d _) Q (.cons (.d _) Q (.cons (.d _) Q (.cons (.d _) Q (.cons (.d _) Q (.cons (.d _) Q (.cons (bO Q) Q (.cons (.d _) Q (.cons (.d _) Q .nil)))))))))) (.refl _) (.cons (.d _) (.refl _) .nil))⟩
 replace hm:=JF h30 hm;refine TS (WT (WN [2,5] Q Q (RS (SA TK Q (SA TK Q (SA TK Q (TN (WN [2,3] Q Q (TR ?_)))))))));obtain⟨rfl,rfl⟩:=Prod.mk.inj (Option.some.inj hm);exact⟨_,.mk _ (.cons (.agg (TK.lay Q) Q Q Q Q) (.cons (.tmp 3) .nil)) Q,(.cons (fG (.cons (.d _) Q (.cons (.d _) Q (.cons (.d _) Q (.cons (.d _) Q (.cons (.d _) Q (.cons (.d _) Q (.cons (bO Q) Q (.cons (.d _) Q (.cons (.d _) Q .nil)))))))))) (.refl _) (.cons (.d _) (.refl _) .nil))⟩
end Go.Proofs.YtldaknhjmhlefaaGreatDoor
