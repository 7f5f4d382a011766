/- Texts of this proof, joined, without what it does not use. No condition. -/
import Derived.Ground.NamesProg
import Derived.Shelf.SlSortCmp.NoneTotal
import Derived.Shelf.Strconv.Itoa3
import Derived.Test.YtldaknhjmhlefaaGreatDoorQr

set_option maxHeartbeats 8000000
set_option linter.unusedSimpArgs false
set_option linter.unusedVariables false
set_option maxRecDepth 20000
namespace Go.Proofs.YtldaknhjmhlefaaGreatDoor
open Go Go.TL Go.Sort Go.Shelf Go.RowKit Go.Lib Go.Proofs.Tryz
def qRW:Go.Shelf.Ren:=⟨fun|6=>177|15=>219|14=>218|28=>245|29=>246|20=>237|21=>238|22=>239|23=>240|24=>241|25=>242|26=>243|27=>244|46=>252|47=>253|48=>254|49=>255|50=>256|57=>261|n=>n,fun|22=>85|24=>148|25=>192|3=>3|39=>229|0=>0|53=>257|55=>98|4=>4|46=>251|45=>250|50=>209|5=>5|9=>9|66=>264|70=>161|76=>272|77=>273|n=>n,fun|n=>n⟩
theorem qXK:Go.Proofs.SlLaysF0.n6 TP qRW where
 mixed:=by kernel_rfl
 f6:=⟨Tryz.f177.name,by kernel_rfl,func177.trans (congrArg some (by kernel_rfl))⟩
 f14:=⟨Tryz.f218.name,by kernel_rfl,func218.trans (congrArg some (by kernel_rfl))⟩
 f15:=func219.trans (congrArg some (by kernel_rfl))
 f20:=⟨Tryz.f237.name,by kernel_rfl,func237.trans (congrArg some (by kernel_rfl))⟩
 f21:=⟨Tryz.f238.name,by kernel_rfl,func238.trans (congrArg some (by kernel_rfl))⟩
 f22:=⟨Tryz.f239.name,by kernel_rfl,func239.trans (congrArg some (by kernel_rfl))⟩
 f23:=⟨Tryz.f240.name,by kernel_rfl,func240.trans (congrArg some (by kernel_rfl))⟩
 f24:=⟨Tryz.f241.name,by kernel_rfl,func241.trans (congrArg some (by kernel_rfl))⟩
 f25:=⟨Tryz.f242.name,by kernel_rfl,func242.trans (congrArg some (by kernel_rfl))⟩
 f26:=⟨Tryz.f243.name,by kernel_rfl,func243.trans (congrArg some (by kernel_rfl))⟩
 f27:=⟨Tryz.f244.name,by kernel_rfl,func244.trans (congrArg some (by kernel_rfl))⟩
 f28:=func245.trans (congrArg some (by kernel_rfl))
 f29:=func246.trans (congrArg some (by kernel_rfl))
 f46:=⟨Tryz.f252.name,by kernel_rfl,func252.trans (congrArg some (by kernel_rfl))⟩
 f47:=func253.trans (congrArg some (by kernel_rfl))
 f48:=func254.trans (congrArg some (by kernel_rfl))
 f49:=⟨Tryz.f255.name,by kernel_rfl,func255.trans (congrArg some (by kernel_rfl))⟩
 f50:=⟨Tryz.f256.name,by kernel_rfl,func256.trans (congrArg some (by kernel_rfl))⟩
 f57:=⟨Tryz.f261.name,by kernel_rfl,func261.trans (congrArg some (by kernel_rfl))⟩
 t0:=Tryz.underlying0
 a0:=Tryz.isAgg0
 z0:=Tryz.sizeOf0
 v0:=Tryz.zeroValue0
 t3:=Tryz.underlying3
 a3:=Tryz.isAgg3
 z3:=Tryz.sizeOf3
 v3:=Tryz.zeroValue3
 t4:=Tryz.underlying4
 a4:=Tryz.isAgg4
 z4:=Tryz.sizeOf4
 v4:=Tryz.zeroValue4
 t5:=Tryz.underlying5
 a5:=Tryz.isAgg5
 z5:=Tryz.sizeOf5
 v5:=Tryz.zeroValue5
 t9:=Tryz.underlying9
 a9:=Tryz.isAgg9
 z9:=Tryz.sizeOf9
 v9:=Tryz.zeroValue9
 t22:=Tryz.underlying85
 a22:=Tryz.isAgg85
 z22:=Tryz.sizeOf85
 v22:=Tryz.zeroValue85
 t25:=Tryz.underlying192
 a25:=Tryz.isAgg192
 z25:=Tryz.sizeOf192
 v25:=Tryz.zeroValue192
 t39:=Tryz.underlying229
 a39:=Tryz.isAgg229
 z39:=Tryz.sizeOf229
 v39:=Tryz.zeroValue229
 t45:=Tryz.underlying250
 a45:=Tryz.isAgg250
 z45:=Tryz.sizeOf250
 v45:=Tryz.zeroValue250
 t46:=Tryz.underlying251
 a46:=Tryz.isAgg251
 z46:=Tryz.sizeOf251
 v46:=Tryz.zeroValue251
 t50:=Tryz.underlying209
 a50:=Tryz.isAgg209
 z50:=Tryz.sizeOf209
 v50:=Tryz.zeroValue209
 t53:=Tryz.underlying257
 a53:=Tryz.isAgg257
 z53:=Tryz.sizeOf257
 v53:=Tryz.zeroValue257
 t55:=Tryz.underlying98
 a55:=Tryz.isAgg98
 z55:=Tryz.sizeOf98
 v55:=Tryz.zeroValue98
 t66:=Tryz.underlying264
 a66:=Tryz.isAgg264
 z66:=Tryz.sizeOf264
 v66:=Tryz.zeroValue264
 t70:=Tryz.underlying161
 a70:=Tryz.isAgg161
 z70:=Tryz.sizeOf161
 v70:=Tryz.zeroValue161
 t76:=Tryz.underlying272
 a76:=Tryz.isAgg272
 z76:=Tryz.sizeOf272
 v76:=Tryz.zeroValue272
 t77:=Tryz.underlying273
 a77:=Tryz.isAgg273
 z77:=Tryz.sizeOf273
 v77:=Tryz.zeroValue273
theorem uA {G:FuncId} {c:D} {cs:List D} {m:Ag->Ag->Option Int} (hs:SortOk m) (hfn:qTZ c=some (G,cs)) (hclo:∀ a b r,m a b=some r->RetD TP G ([a.enc,b.enc]++cs) (.int .i64 r)) (xs:List Ag) (hlen:xs.length<=1000000000):Ret TP 177 [.flat 148 2 (xs.map Ag.enc)] (λ_=>false) [.msl 0 2 0 xs.length,.d c] (.tup []) [.flat 148 2 ((uK m xs).map Ag.enc)]:=by
 have hcb:uZ TP G=true:=by
  obtain⟨r,hr⟩:=hs.tot default default;obtain⟨_,_,_,h,_⟩:=hclo _ _ _ hr;exact h.1
 have hlt:ltOf (λx y=>(m x y).getD 0)=ltM m:=rfl
 have hS := qZI (P := TP) (F := 177) (G := G) (sz := 2) (f := Ag.enc) (c := c) (cs := cs) (cf := fun x y => (m x y).getD 0) (S := fun d => d.toList.mergeSort fun x y => !(ltM m) y x) 148 (fun _ => false) xs (bA rfl) (fun _ => rfl) (fun _ => rfl) (fun _ => rfl) hfn
  (λx y=>by obtain⟨r,hr⟩:=hs.tot x y;rw [hr];exact hclo x y r hr) (by omega) (by rw [List.length_mergeSort])
  (λp cap fv w=>AnyF.slices_SortFunc_none { qXK with } p cap fv w)
  (fun blk off cap cb d w hcl hH hb hl => AnyQ.slices_SortFunc_total qXK 2 Tryz.isAgg148 Tryz.sizeOf148 (fun x => (Ag.enc x).cells.map D.val) (fun _ => rfl) (fun x v hv => by obtain ⟨c, hc, rfl⟩ := List.mem_map.1 hv; simp only [Ag.enc, D.cells, zQB, List.not_mem_nil, or_false] at hc; rcases hc with rfl | rfl <;> rfl) (fun x y => (m x y).getD 0)
   ⟨hs.irrefl, hs.trans, hs.ntrans⟩ G cb blk off cap d w (qRF hcb) hcl hH hb hl hs.anti)
 rwa [show (xs.toArray.toList.mergeSort λx y=>!(ltM m) y x)=uK m xs from qRV hs xs] at hS
def qTR:Go.Shelf.Ren:=⟨fun|171=>174|243=>216|246=>236|283=>248|284=>249|285=>250|286=>251|129=>246|317=>257|318=>258|319=>259|320=>260|337=>262|338=>263|n=>n,fun|3=>3|9=>9|2=>2|4=>4|171=>260|0=>0|53=>98|37=>245|5=>5|173=>262|212=>270|51=>257|20=>20|213=>271|46=>229|232=>275|233=>276|n=>n,fun|17=>0|18=>1|19=>2|n=>n⟩
theorem zFR:Go.Proofs.Lays.n171 TP qTR where
 mixed:=by kernel_rfl
 f129:=func246.trans (congrArg some (by kernel_rfl))
 f171:=func174.trans (congrArg some (by kernel_rfl))
 f243:=func216.trans (congrArg some (by kernel_rfl))
 f246:=func236.trans (congrArg some (by kernel_rfl))
 f283:=func248.trans (congrArg some (by kernel_rfl))
 f284:=func249.trans (congrArg some (by kernel_rfl))
 f285:=func250.trans (congrArg some (by kernel_rfl))
 f286:=func251.trans (congrArg some (by kernel_rfl))
 f317:=func257.trans (congrArg some (by kernel_rfl))
 f318:=func258.trans (congrArg some (by kernel_rfl))
 f319:=func259.trans (congrArg some (by kernel_rfl))
 f320:=func260.trans (congrArg some (by kernel_rfl))
 f337:=func262.trans (congrArg some (by kernel_rfl))
 f338:=func263.trans (congrArg some (by kernel_rfl))
 t0:=Tryz.underlying0
 a0:=Tryz.isAgg0
 z0:=Tryz.sizeOf0
 v0:=Tryz.zeroValue0
 t2:=Tryz.underlying2
 a2:=Tryz.isAgg2
 z2:=Tryz.sizeOf2
 v2:=Tryz.zeroValue2
 t3:=Tryz.underlying3
 a3:=Tryz.isAgg3
 z3:=Tryz.sizeOf3
 v3:=Tryz.zeroValue3
 t4:=Tryz.underlying4
 a4:=Tryz.isAgg4
 z4:=Tryz.sizeOf4
 v4:=Tryz.zeroValue4
 t5:=Tryz.underlying5
 a5:=Tryz.isAgg5
 z5:=Tryz.sizeOf5
 v5:=Tryz.zeroValue5
 t9:=Tryz.underlying9
 a9:=Tryz.isAgg9
 z9:=Tryz.sizeOf9
 v9:=Tryz.zeroValue9
 t20:=Tryz.underlying20
 a20:=Tryz.isAgg20
 z20:=Tryz.sizeOf20
 v20:=Tryz.zeroValue20
 t37:=Tryz.underlying245
 a37:=Tryz.isAgg245
 z37:=Tryz.sizeOf245
 v37:=Tryz.zeroValue245
 t46:=Tryz.underlying229
 a46:=Tryz.isAgg229
 z46:=Tryz.sizeOf229
 v46:=Tryz.zeroValue229
 t51:=Tryz.underlying257
 a51:=Tryz.isAgg257
 z51:=Tryz.sizeOf257
 v51:=Tryz.zeroValue257
 t53:=Tryz.underlying98
 a53:=Tryz.isAgg98
 z53:=Tryz.sizeOf98
 v53:=Tryz.zeroValue98
 t171:=Tryz.underlying260
 a171:=Tryz.isAgg260
 z171:=Tryz.sizeOf260
 v171:=Tryz.zeroValue260
 t173:=Tryz.underlying262
 a173:=Tryz.isAgg262
 z173:=Tryz.sizeOf262
 v173:=Tryz.zeroValue262
 t212:=Tryz.underlying270
 a212:=Tryz.isAgg270
 z212:=Tryz.sizeOf270
 v212:=Tryz.zeroValue270
 t213:=Tryz.underlying271
 a213:=Tryz.isAgg271
 z213:=Tryz.sizeOf271
 t232:=Tryz.underlying275
 a232:=Tryz.isAgg275
 z232:=Tryz.sizeOf275
 v232:=Tryz.zeroValue275
 t233:=Tryz.underlying276
 a233:=Tryz.isAgg276
 z233:=Tryz.sizeOf276
 v233:=Tryz.zeroValue276
 g17:=by kernel_rfl
 g18:=by kernel_rfl
 g19:=by kernel_rfl
theorem qNO (i:Nat) (hi:i < 100):RetN TP 174 [.int .i64 i] (.str ⟨(Go.Lib.decDigits i).toArray⟩):=qZJ (bA rfl) λw=>Any.strconv_Itoa_small zFR i hi w
end Go.Proofs.YtldaknhjmhlefaaGreatDoor
set_option maxHeartbeats 8000000
set_option linter.unusedSimpArgs false
set_option linter.unusedVariables false
set_option maxRecDepth 20000
namespace Go.Proofs.YtldaknhjmhlefaaGreatDoor
open Go Go.TL Go.Proofs.Tryz
theorem qTO {p0:Am} {r:Bool} (hm:qBL p0=some r):RetN TP 32 [p0.enc] (.bool (r)):=by
 refine .unit (aN (bA Q) func32 Q ntmps32 Q Q (λwX gX=>?_)) Q;unfold qBL at hm;refine WN [0] Q Q (aP 1 Q (cT 0 Q Q Q (aG 4 Q ?_)));refine iC [(20,.d (.bool (((decide ((80:Int) < (p0.Ac.length:Int)))||((decide ((80:Int) < (p0.Ae.length:Int)))||(decide ((80:Int) < (p0.As.length:Int))))))))] [20] [1] Q ?_ ?_
 ·refine aP 3 Q (SX Q Q (aU TK Q Q Q) (aH 1 Q (SB TK Q (λq1 hq1=>?_))));cases q1
  ·refine aH 2 Q (SX Q Q (aU TK Q Q Q) (aH 2 Q (SB TK Q (λq2 hq2=>?_))));cases q2
   ·refine aH 2 Q (SX Q Q (aU TK Q Q Q) (aI 3 Q ?_));exact⟨[0],Q,k0,bX (aV (aX (by first|(simp [hq1,hq2];done)|(simp only [hq1,hq2];simp))) Q) Q⟩
   refine aI 6 Q ?_;exact⟨[0],Q,k0,bX (aV (aX (by first|(simp [hq1,hq2];done)|(simp only [hq1,hq2];simp))) Q) Q⟩
  refine aI 12 Q ?_;exact⟨[0],Q,k0,bX (aV (aX (by first|(simp [hq1];done)|(simp only [hq1];simp))) Q) Q⟩
 refine WN [1,20] Q Q (cP hm Q (λh3 hm=>?_) (λh3 hm=>?_))
 ·exact aQ 6 Q (bN hm Q)
 refine cR 2 Q (cI hm (λ_=>[]) (λ_=>[]) [] [] Q (λz4 hm hz4=>?_) (λj hm=>?_))
 ·refine aP 3 Q (SX Q Q (aU TK Q Q Q) (aG 4 Q (aT hm (λx6=>([(24,.d (.int .i64 x6))])) (λx6=>[]) [24] [22,23] [0] Q k0 Q Q Q Q Q (λx6 z7 hm hz7=>WN [22,23,24] Q Q (bK 5 Q (bG hm Q (λh8 hm=>?_) (λh8 hm=>?_)))))))
  ·refine aM 5 Q (VE hm λe9 he9 hm=>SX Q Q (bR TK Q Q Q Q he9) (aH 1 Q (cD 1 Q Q fL Q (bY 1 [none,none,none,some 3,some 2,some 1,none,none,some 3,some 2,some 1,some 2,some 1,some 2] Q Q (aG 3 Q ?_)))));refine iC [(79,.d (.bool (((decide ((80:Int) < (e9.path.length:Int)))||((decide ((80:Int) < (e9.Ae.length:Int)))||((decide ((80:Int) < (e9.Aa.length:Int)))||((decide ((80:Int) < (e9.over.length:Int)))||((decide ((80:Int) < (e9.Ar.length:Int)))||((decide ((80:Int) < (e9.Ah.length:Int)))||((decide ((80:Int) < (e9.Az.length:Int)))||((decide ((80:Int) < (e9.guards.length:Int)))||(decide ((80:Int) < (e9.gaps.length:Int))))))))))))))] [79] [22,23,24] Q ?_ ?_
   ·refine aP 3 Q (SX Q Q (aU TK Q Q Q) (aH 1 Q (SB TK Q (λq10 hq10=>?_))));cases q10
    ·refine aH 2 Q (SX Q Q (aU TK Q Q Q) (aH 2 Q (SB TK Q (λq11 hq11=>?_))));cases q11
     ·refine aH 2 Q (SX Q Q (aU TK Q Q Q) (aH 2 Q (SB TK Q (λq12 hq12=>?_))));cases q12
      ·refine aH 2 Q (SX Q Q (aU TK Q Q Q) (aH 2 Q (SB TK Q (λq13 hq13=>?_))));cases q13
       ·refine aH 2 Q (SX Q Q (aU TK Q Q Q) (aH 2 Q (SB TK Q (λq14 hq14=>?_))));cases q14
        ·refine aH 2 Q (SX Q Q (aU TK Q Q Q) (aH 2 Q (SB TK Q (λq15 hq15=>?_))));cases q15
         ·refine aH 2 Q (SX Q Q (aU TK Q Q Q) (aH 2 Q (SB TK Q (λq16 hq16=>?_))));cases q16
          ·refine aH 2 Q (SX Q Q (aU TK Q Q Q) (aH 2 Q (SB TK Q (λq17 hq17=>?_))));cases q17
           ·refine aH 2 Q (SX Q Q (aU TK Q Q Q) (aI 3 Q ?_));exact⟨[0,1],Q,k0,bX (aV (aX (by first|(simp [hq10,hq11,hq12,hq13,hq14,hq15,hq16,hq17];done)|(simp only [hq10,hq11,hq12,hq13,hq14,hq15,hq16,hq17];simp))) Q) Q⟩
           refine aI 6 Q ?_;exact⟨[0,1],Q,k0,bX (aV (aX (by first|(simp [hq10,hq11,hq12,hq13,hq14,hq15,hq16,hq17];done)|(simp only [hq10,hq11,hq12,hq13,hq14,hq15,hq16,hq17];simp))) Q) Q⟩
          refine aI 12 Q ?_;exact⟨[0,1],Q,k0,bX (aV (aX (by first|(simp [hq10,hq11,hq12,hq13,hq14,hq15,hq16];done)|(simp only [hq10,hq11,hq12,hq13,hq14,hq15,hq16];simp))) Q) Q⟩
         refine aI 18 Q ?_;exact⟨[0,1],Q,k0,bX (aV (aX (by first|(simp [hq10,hq11,hq12,hq13,hq14,hq15];done)|(simp only [hq10,hq11,hq12,hq13,hq14,hq15];simp))) Q) Q⟩
        refine aI 24 Q ?_;exact⟨[0,1],Q,k0,bX (aV (aX (by first|(simp [hq10,hq11,hq12,hq13,hq14];done)|(simp only [hq10,hq11,hq12,hq13,hq14];simp))) Q) Q⟩
       refine aI 30 Q ?_;exact⟨[0,1],Q,k0,bX (aV (aX (by first|(simp [hq10,hq11,hq12,hq13];done)|(simp only [hq10,hq11,hq12,hq13];simp))) Q) Q⟩
      refine aI 36 Q ?_;exact⟨[0,1],Q,k0,bX (aV (aX (by first|(simp [hq10,hq11,hq12];done)|(simp only [hq10,hq11,hq12];simp))) Q) Q⟩
     refine aI 42 Q ?_;exact⟨[0,1],Q,k0,bX (aV (aX (by first|(simp [hq10,hq11];done)|(simp only [hq10,hq11];simp))) Q) Q⟩
    refine aI 48 Q ?_;exact⟨[0,1],Q,k0,bX (aV (aX (by first|(simp [hq10];done)|(simp only [hq10];simp))) Q) Q⟩
   refine WN [22,23,24,79] Q Q (cP hm Q (λh18 hm=>?_) (λh18 hm=>?_))
   ·refine aQ 7 Q (IE hm λv19 hm hz=>?_);rw [hz7 _ hz] at hm;refine WR (bP 1 Q (IE hm λv20 hm hz=>?_));rw [hz4 _ hz] at hm;exact WR (bN hm Q)
   exact aM 4 Q (GE hm λg21 hm=>SX Q Q (aZ Q Q Q Q g21) (aI 2 Q (bU [0] hm Q Q)))
  refine aQ 2 Q (IE hm λv22 hm hz=>?_);rw [hz7 _ hz] at hm;exact WX (bP 1 Q (bU [0] hm Q Q))
 exact WN [] Q Q (aQ 5 Q (bN hm Q))
theorem qNN {p0:Am} {r:Bool} (hm:rL p0=some r):RetN TP 9 [p0.enc] (.bool (r)):=by
 refine .unit (aN (bA Q) func9 Q ntmps9 Q Q (λwX gX=>?_)) Q;unfold rL at hm;refine WN [0] Q Q (aP 1 Q (cT 0 Q Q Q (aG 3 Q (aL hm (λx1=>([(2,.d (.bool (x1)))])) (λx1=>[]) [2] [] Q (λz2 hm=>?_) (λx1 hm=>?_)))))
 ·refine aP 2 Q (c_N hm (qTO ·) Q Q Q Q λr3 hm=>SB TK Q (λq4 hq4=>?_));cases q4
  ·replace hm:=JB hq4 hm;exact aI 7 Q (bM [0] hm Q Q)
  replace hm:=JA hq4 hm;exact aH 2 Q (SX Q Q (aU TK Q Q Q) (aI 4 Q (bM [0] hm Q Q)))
 exact WN [2] Q Q (aQ 1 Q (bN hm Q))
theorem qQP  {r:Aw} (hm:qDL=some r):RetD TP 33 [] (r.enc):=by
 refine .of (mv:=λ_=>false) (aN (bA Q) func33 Q ntmps33 Q Q (λwX gX=>?_));unfold qDL at hm;refine WN [] Q Q (aP 1 Q (cD 0 Q Q qUW Q (iF (f:=A5.enc) 0 2 1 123 7 Q Q Q (bY 0 [none,some 1,none,some 4,some 4,some 3] Q Q (aH 3 Q (SX Q Q (cM [.const (Value.string ⟨#[120]⟩),.const (Value.string ⟨#[121]⟩),.const (Value.string ⟨#[122]⟩)] TK Q Q eQ Q Q Q Q Q) (SX Q Q (kG Q plc71 qUW Q Q Q Q) (cD 2 Q Q qUW Q (iF (f:=A5.enc) 2 2 3 123 7 Q Q Q (bY 2 [none,some 1,none,some 4,some 4,some 3] Q Q (aH 1 Q (iF (f:=A5.enc) 2 2 4 123 7 Q Q Q (bY 2 [none,none,none,some 4,some 4,some 3] Q Q ?_)))))))))))));refine aG 2 Q (WN [0,1] Q Q (aL hm (λb1=>[]) (λb1=>([(2,.box 71 [.d (.str (⟨#[108,105,110,101]⟩:BA)),.d (.sl 1 (([(⟨#[120]⟩:BA),(⟨#[121]⟩:BA),(⟨#[122]⟩:BA)]:List BA).map D.str)),.msl 4 7 0 b1.length,.d (.sl 4 (([]:List Bc).map Bc.enc)),.d (.sl 4 (([]:List A8).map A8.enc)),.d (.sl 3 (([]:List Bb).map Bb.enc))]),(4,.flat 123 7 (b1.map A5.enc))])) [] [0,1] Q (λz2 hm=>?_) (λb1 hm=>?_)))
 ·refine aP 1 Q (SX Q Q (cM [.const (Value.string ⟨#[97]⟩),.const (Value.string ⟨#[98]⟩),.const (Value.string ⟨#[99]⟩)] TK Q Q eQ Q Q Q Q Q) (SX Q Q (aU (f:=D.str) (xs:=([(⟨#[97]⟩:BA),(⟨#[98]⟩:BA),(⟨#[99]⟩:BA)]:List BA)) TK Q Q Q) (aG 4 Q (aT hm (λ(x6,b7)=>([(8,.d (.int .i64 x6))])) (λ(x6,b7)=>([(2,.box 71 [.d (.str (⟨#[108,105,110,101]⟩:BA)),.d (.sl 1 (([(⟨#[120]⟩:BA),(⟨#[121]⟩:BA),(⟨#[122]⟩:BA)]:List BA).map D.str)),.msl 4 7 0 b7.length,.d (.sl 4 (([]:List Bc).map Bc.enc)),.d (.sl 4 (([]:List A8).map A8.enc)),.d (.sl 3 (([]:List Bb).map Bb.enc))]),(4,.flat 123 7 (b7.map A5.enc))])) [8] [0,1,6,7] [0,1,2,3,4] Q k0 Q Q Q Q Q (λs z8 hm hz8=>?_)))));obtain⟨x6,b7⟩:=s;refine WN [0,1,6,7,8] Q Q (bK 5 Q (bG hm Q (λh9 hm=>?_) (λh9 hm=>?_)))
  ·exact aM 6 Q (VE hm λe10 he10 hm=>SX Q Q (bR (f:=D.str) (xs:=([(⟨#[97]⟩:BA),(⟨#[98]⟩:BA),(⟨#[99]⟩:BA)]:List BA)) TK Q Q Q Q he10) (aH 10 Q (SX Q Q (cJ Q plc123 xF Q Q Q Q) (SX Q Q (cM [.tmp 17] TK Q Q xF Q Q Q Q Q) (GE hm λg11 hm=>cF (f:=A5.enc) ([(⟨e10,(1:Int),(20000:Int),(0:Int),(3000:Int),(0:Int),x6⟩:A5)]:List A5) TK Q Q xF Q Q Q Q Q (λh=>absurd h (zQV _)) Q bZ g11 Q Q (aG 5 Q (WN [0,1,6,7,8] Q Q (aM 1 Q (GE hm λg12 hm=>SX Q Q (aZ Q Q Q Q g12) (aI 2 Q (bU [0,1,2,3,4] hm Q Q)))))))))))
  refine aQ 2 Q (IE hm λv13 hm hz=>?_);rw [hz8 _ hz] at hm;exact WX (bP 1 Q (bM [0,1,2,3,4] hm Q Q))
 refine WN [0,1] Q Q (aM 1 Q (SX Q Q (cJ Q xY jK Q Q Q Q) (SX Q Q (cJ Q xY jK Q Q Q Q) (SX Q Q (cJ Q zCG qDT Q Q Q Q) (SX Q Q (cJ Q xY jK Q Q Q Q) (SX Q Q (cJ Q xY jK Q Q Q Q) (SX Q Q (cJ Q zCG qDT Q Q Q Q) (SX Q Q (cM [.tmp 24,.tmp 27] TK Q Q qDT Q Q Q Q Q) (aG 4 Q (WN [0,1] Q Q (aM 1 Q (SX Q Q (cJ Q xY jK Q Q Q Q) (SX Q Q (cJ Q qVV sC Q Q Q Q) ?_)))))))))))));refine SX Q Q (cJ Q xY jK Q Q Q Q) (SX Q Q (cJ Q qVV sC Q Q Q Q) (SX Q Q (cM [.tmp 31,.tmp 33] TK Q Q sC Q Q Q Q Q) (aG 4 Q (WN [0,1] Q Q (cR 5 Q (WN [0] Q Q (aQ 1 Q ?_)))))));obtain rfl:=OJ hm;exact EndsS.cellR _ TK Q Q Q Q Q (jS (.cons (.d _) Q (.cons (.d _) Q (.cons (dA Q) Q (.cons (.d _) Q (.cons (.d _) Q (.cons (.d _) Q .nil)))))))
theorem qNB {p0:Aw} {r:Ba} (hm:zP p0=some r):RetD TP 222 [p0.enc] (r.enc):=by
 refine .of (mv:=λ_=>false) (aN (bA Q) func222 Q ntmps222 Q Q (λwX gX=>?_));unfold zP at hm;refine WN [0] Q Q (aP 1 Q (cT 0 Q Q Q (cD 1 Q Q qIM Q (iF (f:=D.str) 1 0 2 9 1 Q Q Q (iF (f:=D.str) 1 1 3 9 1 Q Q Q (iF (f:=D.str) 1 2 4 9 1 Q Q Q (aG 2 Q (WN [1,2] Q Q (aM 1 Q (SX Q Q (qVP Q zEZ qIM Q Q Q Q) (cD 5 Q Q qIM Q (iF (f:=D.str) 5 0 6 9 1 Q Q Q (iF (f:=D.str) 5 1 7 9 1 Q Q Q ?_)))))))))))));refine iF (f:=D.str) 5 2 8 9 1 Q Q Q (aH 1 Q (iF (f:=D.str) 5 0 9 9 1 Q Q Q (iF (f:=D.str) 5 1 10 9 1 Q Q Q (iF (f:=D.str) 5 2 11 9 1 Q Q Q (aG 2 Q (WN [1,2,3] Q Q (aM 1 Q ?_)))))));refine SX Q Q (kA Q oK Q Q (by decide) (by decide) Q) ?_;refine aH 3 Q (GE hm λg1 hm=>cF (f:=D.str) p0.Aa TK Q Q eQ Q Q Q Q Q (λh=>absurd h (zQV _)) Q bZ g1 Q Q ?_);refine SX Q Q (kA Q oK Q Q (by decide) (by decide) Q) ?_;refine aG 3 Q (WN [1,2,3] Q Q (aL hm (λb2=>[]) (λb2=>([(5,.box 233 [.msl 9 1 0 (([]:List BA)++p0.Aa).length,.msl 10 1 0 b2.length,.msl 11 1 0 ([]:List BA).length]),(10,.flat 9 1 (b2.map D.str))])) [] [1,2,3] Q (λz3 hm=>?_) (λb2 hm=>?_)))
 ·refine aP 3 Q (SX Q Q (aU TK Q Q Q) (aG 4 Q (aT hm (λ(x7,b8)=>([(18,.d (.int .i64 x7))])) (λ(x7,b8)=>([(5,.box 233 [.msl 9 1 0 (([]:List BA)++p0.Aa).length,.msl 10 1 0 b8.length,.msl 11 1 0 ([]:List BA).length]),(10,.flat 9 1 (b8.map D.str))])) [18] [1,2,3,16,17] [0,1,2,3,4,5,6,7,8,9,10,11] Q k0 Q Q Q Q Q (λs z9 hm hz9=>?_))));obtain⟨x7,b8⟩:=s;refine WN [1,2,3,16,17,18] Q Q (bK 5 Q (bG hm Q (λh10 hm=>?_) (λh10 hm=>?_)))
  ·refine aM 5 Q (VE hm λe11 he11 hm=>SX Q Q (bR TK Q Q Q Q he11) (aH 1 Q (cD 12 Q Q xF Q (aG 3 Q (WN [1,2,3,5,16,17,18] Q Q (aM 1 Q ?_))))));refine SX Q Q (kA Q oK Q Q (by decide) (by decide) Q) ?_;refine aH 3 Q (SX Q Q (cM [.tmp 25] TK Q Q eQ Q Q Q Q Q) (GE hm λg12 hm=>cF (f:=D.str) ([e11.name]:List BA) TK Q Q eQ Q Q Q Q Q (λh=>absurd h (zQV _)) Q bZ g12 Q Q ?_));refine SX Q Q (kA Q oK Q Q (by decide) (by decide) Q) ?_;exact aG 4 Q (WN [1,2,3,16,17,18] Q Q (aM 1 Q (GE hm λg13 hm=>SX Q Q (aZ Q Q Q Q g13) (aI 2 Q (bU [0,1,2,3,4,5,6,7,8,9,10,11] hm Q Q)))))
  refine aQ 2 Q (IE hm λv14 hm hz=>?_);rw [hz9 _ hz] at hm;exact WX (bP 1 Q (bM [0,1,2,3,4,5,6,7,8,9,10,11] hm Q Q))
 refine WN [1,2,3] Q Q (aL hm (λb15=>[]) (λb15=>([(5,.box 233 [.msl 9 1 0 (([]:List BA)++p0.Aa).length,.msl 10 1 0 b2.length,.msl 11 1 0 b15.length]),(11,.flat 9 1 (b15.map D.str))])) [] [2,3] Q (λz16 hm=>?_) (λb15 hm=>?_))
 ·refine aP 3 Q (SX Q Q (aU TK Q Q Q) (aG 4 Q (aT hm (λ(x20,b21)=>([(33,.d (.int .i64 x20))])) (λ(x20,b21)=>([(5,.box 233 [.msl 9 1 0 (([]:List BA)++p0.Aa).length,.msl 10 1 0 b2.length,.msl 11 1 0 b21.length]),(11,.flat 9 1 (b21.map D.str))])) [33] [2,3,31,32] [0,1,2,3,4,5,6,7,8,9,10,11] Q k0 Q Q Q Q Q (λs z22 hm hz22=>?_))));obtain⟨x20,b21⟩:=s;refine WN [2,3,31,32,33] Q Q (bK 5 Q (bG hm Q (λh23 hm=>?_) (λh23 hm=>?_)))
  ·refine aM 5 Q (VE hm λe24 he24 hm=>SX Q Q (bR TK Q Q Q Q he24) (aH 1 Q (cD 12 Q Q sC Q (aG 3 Q (WN [2,3,7,31,32,33] Q Q (aM 1 Q ?_))))));refine SX Q Q (kA Q oK Q Q (by decide) (by decide) Q) ?_;refine aH 3 Q (SX Q Q (cM [.tmp 40] TK Q Q eQ Q Q Q Q Q) (GE hm λg25 hm=>cF (f:=D.str) ([e24.name]:List BA) TK Q Q eQ Q Q Q Q Q (λh=>absurd h (zQV _)) Q bZ g25 Q Q ?_));refine SX Q Q (kA Q oK Q Q (by decide) (by decide) Q) ?_;exact aG 4 Q (WN [2,3,31,32,33] Q Q (aM 1 Q (GE hm λg26 hm=>SX Q Q (aZ Q Q Q Q g26) (aI 2 Q (bU [0,1,2,3,4,5,6,7,8,9,10,11] hm Q Q)))))
  refine aQ 2 Q (IE hm λv27 hm hz=>?_);rw [hz22 _ hz] at hm;exact WX (bP 1 Q (bM [0,1,2,3,4,5,6,7,8,9,10,11] hm Q Q))
 refine WN [2,3] Q Q (cR 5 Q (WN [2] Q Q (aQ 1 Q ?_)));obtain rfl:=OJ hm;exact EndsS.cellR _ TK Q Q Q Q Q (jS (.cons (dA Q) Q (.cons (dA Q) Q (.cons (dA Q) Q .nil))))
theorem qPX {p0:BA} {r:Bool} (hm:qDG p0=some r):RetN TP 223 [.str p0] (.bool (r)):=by
 refine .unit (aN (bA Q) func223 Q ntmps223 Q Q (λwX gX=>?_)) Q;unfold qDG at hm;refine WN [0] Q Q (bK 4 Q (cI hm (λ_=>[]) (λ_=>[]) [] [0] Q (λz1 hm hz1=>?_) (λj hm=>?_)))
 ·refine bK 5 Q (aT hm (λi3=>([(3,.d (.int .i64 i3))])) (λi3=>[]) [3] [0] [] Q k0 Q Q Q Q Q (λi3 z4 hm hz4=>WN [0,3] Q Q (bK 8 Q (bG hm Q (λh5 hm=>?_) (λh5 hm=>?_)))))
  ·refine cR 4 Q (aL hm (λletter6=>([(4,.d (.bool (letter6)))])) (λletter6=>[]) [4] [0,3] Q (λz7 hm=>?_) (λletter6 hm=>?_))
   ·refine aP 3 Q (VE hm λe8 he8 hm=>SX Q Q (qNR Q Tryz.underlying9 Q Q he8) (aH 1 Q (SB TK Q (λq9 hq9=>?_))));cases q9
    ·replace hm:=JF hq9 hm;exact aI 7 Q (bM [] hm Q Q)
    replace hm:=JT hq9 hm;exact aH 2 Q (VE hm λe10 he10 hm=>SX Q Q (qNR Q Tryz.underlying9 Q Q he10) (aI 4 Q (bM [] hm Q Q)))
   refine WN [0,3,4] Q Q (aL hm (λdigit11=>([(5,.d (.bool (digit11)))])) (λdigit11=>[]) [5] [0,3,4] Q (λz12 hm=>?_) (λdigit11 hm=>?_))
   ·refine aP 3 Q (VE hm λe13 he13 hm=>SX Q Q (qNR Q Tryz.underlying9 Q Q he13) (aH 1 Q (SB TK Q (λq14 hq14=>?_))));cases q14
    ·replace hm:=JF hq14 hm;exact aH 8 Q (VE hm λe15 he15 hm=>SX Q Q (qNR Q Tryz.underlying9 Q Q he15) (aI 4 Q (bM [] hm Q Q)))
    replace hm:=JT hq14 hm;refine aH 2 Q (VE hm λe16 he16 hm=>SX Q Q (qNR Q Tryz.underlying9 Q Q he16) (aH 2 Q (SB TK Q (λq17 hq17=>?_))));cases q17
    ·replace hm:=JF hq17 hm;exact aH 2 Q (VE hm λe18 he18 hm=>SX Q Q (qNR Q Tryz.underlying9 Q Q he18) (aI 4 Q (bM [] hm Q Q)))
    replace hm:=JT hq17 hm;exact aI 7 Q (bM [] hm Q Q)
   refine WN [0,3,4,5] Q Q ?_;refine iC [(47,.d (.bool (((!(letter6))&&((!(digit11))||(decide (i3=(0:Int))))))))] [47] [0,3] Q ?_ ?_
   ·refine aP 3 Q (SB TK Q (λq19 hq19=>?_));cases q19
    ·refine aI 8 Q ?_;exact⟨[],Q,k0,bX (aV (aX (by first|(simp [hq19];done)|(simp only [hq19];simp))) Q) Q⟩
    refine aH 2 Q (SB TK Q (λq20 hq20=>?_));cases q20
    ·refine aI 5 Q ?_;exact⟨[],Q,k0,bX (aV (aX (by first|(simp [hq19,hq20];done)|(simp only [hq19,hq20];simp))) Q) Q⟩
    refine aI 5 Q ?_;exact⟨[],Q,k0,bX (aV (aX (by first|(simp [hq19,hq20];done)|(simp only [hq19,hq20];simp))) Q) Q⟩
   refine WN [0,3,47] Q Q (cP hm Q (λh21 hm=>?_) (λh21 hm=>?_))
   ·cases hm
   exact aM 5 Q (GE hm λg22 hm=>SX Q Q (aZ Q Q Q Q g22) (aI 2 Q (bU [] hm Q Q)))
  refine aQ 2 Q (IE hm λv23 hm hz=>?_);rw [hz4 _ hz] at hm;exact WX (bP 1 Q (bU [] hm Q Q))
 refine WN [0] Q Q (iC [(2,.d (.bool (((decide ((1:Int)<=(p0.size:Int)))&&(decide ((p0.size:Int)<=(12:Int)))))))] [2] [] Q ?_ ?_)
 ·refine aP 4 Q (SB TK Q (λq24 hq24=>?_));cases q24
  ·refine aI 6 Q ?_;exact⟨[],Q,k0,bX (aV (aX (by first|(simp [hq24];done)|(simp only [hq24];simp))) Q) Q⟩
  refine aI 6 Q ?_;exact⟨[],Q,k0,bX (aV (aX (by first|(simp [hq24];done)|(simp only [hq24];simp))) Q) Q⟩
 exact WN [2] Q Q (aQ 1 Q (bN hm Q))
theorem vG {p0:(List BA)} {r:Bool} (hm:rJ p0=some r):RetN TP 224 [.sl 1 (p0.map D.str)] (.bool (r)):=by
 refine .unit (aN (bA Q) func224 Q ntmps224 Q Q (λwX gX=>?_)) Q;unfold rJ at hm;refine WN [0] Q Q (bK 4 Q (cI hm (λ_=>[]) (λ_=>[]) [] [] Q (λz1 hm hz1=>?_) (λj hm=>?_)))
 ·refine aP 2 Q (SX Q Q (aU TK Q Q Q) (aG 4 Q (aT hm (λx3=>([(7,.d (.int .i64 x3))])) (λx3=>[]) [7] [0,6] [] Q k0 Q Q Q Q Q (λx3 z4 hm hz4=>WN [0,6,7] Q Q (bK 5 Q (bG hm Q (λh5 hm=>?_) (λh5 hm=>?_)))))))
  ·refine cR 2 Q (cI hm (λ_=>[]) (λ_=>[]) [] [0,6,7] Q (λz6 hm hz6=>?_) (λj hm=>?_))
   ·refine bK 12 Q (aT hm (λx8=>([(11,.d (.int .i64 x8))])) (λx8=>[]) [11] [0,3,6,7,10] [] Q k0 Q Q Q Q Q (λx8 z9 hm hz9=>WN [0,3,6,7,10,11] Q Q (bK 5 Q (bG hm Q (λh10 hm=>?_) (λh10 hm=>?_)))))
    ·refine cR 9 Q (bV follows ?_);iterate 2 (refine DA [] TK Q ?_)
     refine VE hm λe11 he11 hm=>DX [] Q Q (bR TK Q Q Q Q he11) ?_;iterate 3 (refine DA [] TK Q ?_)
     refine VE hm λe12 he12 hm=>DX [] Q Q (bR TK Q Q Q Q he12) ?_;iterate 2 (refine DA [] TK Q ?_)
     refine DT ?_ (by kernel_rfl);refine aG 2 Q (bG hm Q (λh13 hm=>?_) (λh13 hm=>?_))
     ·cases hm
     exact aM 4 Q (GE hm λg14 hm=>SX Q Q (aZ Q Q Q Q g14) (aI 2 Q (bU [] hm Q Q)))
    refine aQ 2 Q (IE hm λv15 hm hz=>?_);rw [hz9 _ hz] at hm;exact WX (bP 2 Q (bU [] hm Q Q))
   exact WN [0,6,7] Q Q (aM 1 Q (GE hm λg16 hm=>SX Q Q (aZ Q Q Q Q g16) (aI 2 Q (bU [] hm Q Q))))
  refine aQ 2 Q (IE hm λv17 hm hz=>?_);rw [hz4 _ hz] at hm;exact WX (bP 1 Q (bU [] hm Q Q))
 exact WN [] Q Q (aQ 5 Q (bN hm Q))
theorem qNC {p0:Aw} {r:Int} (hm:zQ p0=some r):RetN TP 186 [p0.enc] (.int .i64 r):=by
 refine .unit (aN (bA Q) func186 Q ntmps186 Q Q (λwX gX=>?_)) Q;unfold zQ at hm;refine WN [0] Q Q (aP 1 Q (cT 0 Q Q Q (aG 4 Q ?_)));refine iC [(39,.d (.bool (((decide ((p0.A0.length:Int) < (1:Int)))||((decide ((32:Int) < (p0.A0.length:Int)))||((decide ((p0.Aa.length:Int) < (1:Int)))||((decide ((24:Int) < (p0.Aa.length:Int)))||((decide ((20:Int) < (p0.Al.length:Int)))||(decide ((24:Int) < (p0.balises.length:Int)))))))))))] [39] [1] Q ?_ ?_
 ·refine aP 3 Q (SX Q Q (aU TK Q Q Q) (aH 1 Q (SB TK Q (λq1 hq1=>?_))));cases q1
  ·refine aH 2 Q (SX Q Q (aU TK Q Q Q) (aH 2 Q (SB TK Q (λq2 hq2=>?_))));cases q2
   ·refine aH 2 Q (SX Q Q (aU TK Q Q Q) (aH 2 Q (SB TK Q (λq3 hq3=>?_))));cases q3
    ·refine aH 2 Q (SX Q Q (aU TK Q Q Q) (aH 2 Q (SB TK Q (λq4 hq4=>?_))));cases q4
     ·refine aH 2 Q (SX Q Q (aU TK Q Q Q) (aH 2 Q (SB TK Q (λq5 hq5=>?_))));cases q5
      ·refine aH 2 Q (SX Q Q (aU TK Q Q Q) (aI 3 Q ?_));exact⟨[0],Q,k0,bX (aV (aX (by first|(simp [hq1,hq2,hq3,hq4,hq5];done)|(simp only [hq1,hq2,hq3,hq4,hq5];simp))) Q) Q⟩
      refine aI 6 Q ?_;exact⟨[0],Q,k0,bX (aV (aX (by first|(simp [hq1,hq2,hq3,hq4,hq5];done)|(simp only [hq1,hq2,hq3,hq4,hq5];simp))) Q) Q⟩
     refine aI 12 Q ?_;exact⟨[0],Q,k0,bX (aV (aX (by first|(simp [hq1,hq2,hq3,hq4];done)|(simp only [hq1,hq2,hq3,hq4];simp))) Q) Q⟩
    refine aI 18 Q ?_;exact⟨[0],Q,k0,bX (aV (aX (by first|(simp [hq1,hq2,hq3];done)|(simp only [hq1,hq2,hq3];simp))) Q) Q⟩
   refine aI 24 Q ?_;exact⟨[0],Q,k0,bX (aV (aX (by first|(simp [hq1,hq2];done)|(simp only [hq1,hq2];simp))) Q) Q⟩
  refine aI 30 Q ?_;exact⟨[0],Q,k0,bX (aV (aX (by first|(simp [hq1];done)|(simp only [hq1];simp))) Q) Q⟩
 refine WN [1,39] Q Q (cP hm Q (λh6 hm=>?_) (λh6 hm=>?_))
 ·cases hm
 refine aM 4 Q (c_D hm (qNB ·) Q Q Q Q λr7 hm=>cD 1 Q Q qIM Q (bY 1 [some 1,some 1,some 1] Q Q (aG 3 Q (cI hm (λ_=>[]) (λ_=>[]) [] [3] Q (λz8 hm hz8=>?_) (λj hm=>?_)))))
 ·refine jQ (jQ (jQ (jQ (qZC follows (DA [] TK Q (DA [0] TK Q (qAJ [2] _ (.msl 2 1 0 (([p0.name]:List BA)).length) Q (nC Q) Q (w_litD [.tmp 43] Q Q (TK.sel Q) eQ Q Q Q Q Q) ?_)))))));refine DX [] Q Q (kA Q oK Q Q (by decide) (by decide) Q) ?_;refine DA [1] TK Q (GE hm λg9 hm=>qAJ [2,3] _ (.msl 3 1 0 (([p0.name]:List BA)++r7.a0).length) Q (nC Q) Q (qPC (f:=D.str) (xs:=([p0.name]:List BA)) r7.a0 Q Q Q TK Q eQ Q Q Q Q Q Q bZ g9) ?_);refine DX [] Q Q (kA Q oK Q Q (by decide) (by decide) Q) ?_;refine DA [1] TK Q (GE hm λg10 hm=>qAJ [3,4] _ (.msl 4 1 0 ((([p0.name]:List BA)++r7.a0)++r7.a1).length) Q (nC Q) Q (qPC (f:=D.str) (xs:=(([p0.name]:List BA)++r7.a0)) r7.a1 Q Q Q TK Q eQ Q Q Q Q Q Q bZ g10) ?_);refine DX [] Q Q (kA Q oK Q Q (by decide) (by decide) Q) ?_;refine DA [1] TK Q (GE hm λg11 hm=>qAJ [4,5] _ (.msl 5 1 0 (((([p0.name]:List BA)++r7.a0)++r7.a1)++r7.a2).length) Q (nC Q) Q (qPC (f:=D.str) (xs:=((([p0.name]:List BA)++r7.a0)++r7.a1)) r7.a2 Q Q Q TK Q eQ Q Q Q Q Q Q bZ g11) ?_);iterate 2 (refine DA [] TK Q ?_)
  refine DT ?_ (by kernel_rfl);refine aG 2 Q (WN [3,53,54,55] Q Q (cR 1 Q (aT hm (λx13=>([(53,.msl 2 1 0 (((([p0.name]:List BA)++r7.a0)++r7.a1)++r7.a2).length),(55,.d (.int .i64 x13))])) (λx13=>[]) [53,55] [3,54] [0,1,5] Q k0 Q Q Q Q Q (λx13 z14 hm hz14=>WN [3,53,54,55] Q Q (bK 5 Q (bG hm Q (λh15 hm=>?_) (λh15 hm=>?_)))))))
  ·refine aM 5 Q (VE hm λe16 he16 hm=>SX Q Q (sS TK Q Q Q Q he16 Q) (SX Q Q (vW TK Q Q Q Q he16.2 Q) (aH 5 Q (c_N hm (qPX ·) Q Q Q Q λr17 hm=>aG 3 Q (cP hm Q (λh18 hm=>?_) (λh18 hm=>?_))))))
   ·cases hm
   exact aM 4 Q (GE hm λg19 hm=>SX Q Q (aZ Q Q Q Q g19) (aI 2 Q (bU [0,1,2] hm Q Q)))
  refine aQ 2 Q (IE hm λv20 hm hz=>?_);rw [hz14 _ hz] at hm;exact WX (bP 1 Q (bU [0,1] hm Q Q))
 refine WN [3] Q Q (cR 1 Q (aL hm (λx21=>([(75,.d (.bool (x21)))])) (λx21=>[]) [75] [] Q (λz22 hm=>?_) (λx21 hm=>?_)))
 ·refine aP 1 Q ?_;refine SX Q Q (kA Q oK Q Q (by decide) (by decide) Q) ?_;refine aH 1 Q (c_N hm (vG ·) Q Q Q Q λr23 hm=>SB TK Q (λq24 hq24=>?_));cases q24
  ·replace hm:=JB hq24 hm;refine SX Q Q (kA Q oK Q Q (by decide) (by decide) Q) ?_;refine aH 1 Q (c_N hm (vG ·) Q Q Q Q λr25 hm=>aH 1 Q (SB TK Q (λq26 hq26=>?_)));cases q26
   ·replace hm:=JB hq26 hm;refine SX Q Q (kA Q oK Q Q (by decide) (by decide) Q) ?_;exact aH 1 Q (c_N hm (vG ·) Q Q Q Q λr27 hm=>aI 2 Q (bM [0,1] hm Q Q))
   replace hm:=JA hq26 hm;exact aI 5 Q (bM [0,1] hm Q Q)
  replace hm:=JA hq24 hm;exact aI 10 Q (bM [0,1] hm Q Q)
 refine WN [75] Q Q (cP hm Q (λh28 hm=>?_) (λh28 hm=>?_))
 ·cases hm
 exact aQ 7 Q (bN hm Q)
theorem qNA {p0:Aw} {p1:A5} {r:Bool} (hm:zO p0 p1=some r):RetN TP 225 [p0.enc,p1.enc] (.bool (r)):=by
 refine .unit (aN (bA Q) func225 Q ntmps225 Q Q (λwX gX=>?_)) Q;unfold zO at hm;refine WN [0,1] Q Q (aP 1 Q (cT 0 Q Q Q (cT 1 Q Q Q (aG 4 Q ?_))));refine iC [(55,.d (.bool (((decide (p1.kind < (1:Int)))||((decide ((3:Int) < p1.kind))||((decide (p1.length < (500:Int)))||((decide ((1000000:Int) < p1.length))||((decide (p1.grade < (-50:Int)))||((decide ((50:Int) < p1.grade))||((decide (p1.speed < (100:Int)))||((decide ((10000:Int) < p1.speed))||((decide (p1.A6 < (0:Int)))||(decide ((p0.Aa.length:Int)<=p1.A6))))))))))))))] [55] [3] Q ?_ ?_
 ·refine aP 4 Q (SB TK Q (λq1 hq1=>?_));cases q1
  ·refine aH 4 Q (SB TK Q (λq2 hq2=>?_));cases q2
   ·refine aH 4 Q (SB TK Q (λq3 hq3=>?_));cases q3
    ·refine aH 4 Q (SB TK Q (λq4 hq4=>?_));cases q4
     ·refine aH 4 Q (SB TK Q (λq5 hq5=>?_));cases q5
      ·refine aH 4 Q (SB TK Q (λq6 hq6=>?_));cases q6
       ·refine aH 4 Q (SB TK Q (λq7 hq7=>?_));cases q7
        ·refine aH 4 Q (SB TK Q (λq8 hq8=>?_));cases q8
         ·refine aH 4 Q (SB TK Q (λq9 hq9=>?_));cases q9
          ·refine aH 4 Q (SX Q Q (aU TK Q Q Q) (aI 3 Q ?_));exact⟨[0,1],Q,k0,bX (aV (aX (by first|(simp [hq1,hq2,hq3,hq4,hq5,hq6,hq7,hq8,hq9];done)|(simp only [hq1,hq2,hq3,hq4,hq5,hq6,hq7,hq8,hq9];simp))) Q) Q⟩
          refine aI 8 Q ?_;exact⟨[0,1],Q,k0,bX (aV (aX (by first|(simp [hq1,hq2,hq3,hq4,hq5,hq6,hq7,hq8,hq9];done)|(simp only [hq1,hq2,hq3,hq4,hq5,hq6,hq7,hq8,hq9];simp))) Q) Q⟩
         refine aI 13 Q ?_;exact⟨[0,1],Q,k0,bX (aV (aX (by first|(simp [hq1,hq2,hq3,hq4,hq5,hq6,hq7,hq8];done)|(simp only [hq1,hq2,hq3,hq4,hq5,hq6,hq7,hq8];simp))) Q) Q⟩
        refine aI 18 Q ?_;exact⟨[0,1],Q,k0,bX (aV (aX (by first|(simp [hq1,hq2,hq3,hq4,hq5,hq6,hq7];done)|(simp only [hq1,hq2,hq3,hq4,hq5,hq6,hq7];simp))) Q) Q⟩
       refine aI 23 Q ?_;exact⟨[0,1],Q,k0,bX (aV (aX (by first|(simp [hq1,hq2,hq3,hq4,hq5,hq6];done)|(simp only [hq1,hq2,hq3,hq4,hq5,hq6];simp))) Q) Q⟩
      refine aI 28 Q ?_;exact⟨[0,1],Q,k0,bX (aV (aX (by first|(simp [hq1,hq2,hq3,hq4,hq5];done)|(simp only [hq1,hq2,hq3,hq4,hq5];simp))) Q) Q⟩
     refine aI 33 Q ?_;exact⟨[0,1],Q,k0,bX (aV (aX (by first|(simp [hq1,hq2,hq3,hq4];done)|(simp only [hq1,hq2,hq3,hq4];simp))) Q) Q⟩
    refine aI 38 Q ?_;exact⟨[0,1],Q,k0,bX (aV (aX (by first|(simp [hq1,hq2,hq3];done)|(simp only [hq1,hq2,hq3];simp))) Q) Q⟩
   refine aI 43 Q ?_;exact⟨[0,1],Q,k0,bX (aV (aX (by first|(simp [hq1,hq2];done)|(simp only [hq1,hq2];simp))) Q) Q⟩
  refine aI 48 Q ?_;exact⟨[0,1],Q,k0,bX (aV (aX (by first|(simp [hq1];done)|(simp only [hq1];simp))) Q) Q⟩
 refine WN [3,55] Q Q (cP hm Q (λh10 hm=>?_) (λh10 hm=>?_))
 ·cases hm
 refine cR 9 Q (bG hm Q (λh11 hm=>?_) (λh11 hm=>?_))
 ·cases hm
 exact aQ 10 Q (bN hm Q)
theorem qID {p0:Aw} {p1:Int} {r:(List Int)} (hm:vL p0 p1=some r):RetD TP 226 [p0.enc,.int .i64 p1] (.sl 1 (r.map (D.int .i64))):=by
 refine .of (mv:=λ_=>false) (aN (bA Q) func226 Q ntmps226 Q Q (λwX gX=>?_));unfold vL at hm;refine WN [0,1] Q Q (aP 1 Q (cT 0 Q Q Q (aH 4 Q (fM (f:=(D.int .i64)) 1 3 1 Q Q Q (aG 2 Q (aL hm (λb1=>([(5,.msl 1 1 0 b1.length)])) (λb1=>([(1,.flat 3 1 (b1.map (D.int .i64)))])) [5] [] Q (λz2 hm=>?_) (λb1 hm=>?_)))))))
 ·refine aP 3 Q (SX Q Q (aU TK Q Q Q) (aG 4 Q (aT hm (λ(x6,b7)=>([(5,.msl 1 1 0 b7.length),(11,.d (.int .i64 x6))])) (λ(x6,b7)=>([(1,.flat 3 1 (b7.map (D.int .i64)))])) [5,11] [1,2,9,10] [0,1] Q k0 Q Q Q Q Q (λs z8 hm hz8=>?_))));obtain⟨x6,b7⟩:=s;refine WN [1,2,5,9,10,11] Q Q (bK 5 Q (bG hm Q (λh9 hm=>?_) (λh9 hm=>?_)))
  ·refine aM 6 Q (VE hm λe10 he10 hm=>SX Q Q (bR TK Q Q Q Q he10) (aH 1 Q (cD 2 Q Q xF Q (aG 4 Q (iC [(30,.d (.bool (((decide (e10.A6=p1))&&((decide ((0:Int)<=p1))&&(decide (p1 < (p0.Aa.length:Int))))))))] [30] [1,2,5,6,9,10,11] Q ?_ ?_)))))
   ·refine aP 5 Q (SB TK Q (λq11 hq11=>?_));cases q11
    ·refine aI 11 Q ?_;exact⟨[0,1,2],Q,k0,bX (aV (aX (by first|(simp [hq11];done)|(simp only [hq11];simp))) Q) Q⟩
    refine aH 3 Q (SB TK Q (λq12 hq12=>?_));cases q12
    ·refine aI 7 Q ?_;exact⟨[0,1,2],Q,k0,bX (aV (aX (by first|(simp [hq11,hq12];done)|(simp only [hq11,hq12];simp))) Q) Q⟩
    refine aH 3 Q (SX Q Q (aU TK Q Q Q) (aI 3 Q ?_));exact⟨[0,1,2],Q,k0,bX (aV (aX (by first|(simp [hq11,hq12];done)|(simp only [hq11,hq12];simp))) Q) Q⟩
   refine WN [1,2,5,6,9,10,11,30] Q Q (cP hm Q (λh13 hm=>?_) (λh13 hm=>?_))
   ·exact aM 3 Q (SX Q Q (cM [.tmp 32] TK Q Q gR Q Q Q Q Q) (GE hm λg14 hm=>cF (f:=(D.int .i64)) ([x6]:List Int) TK Q Q gR Q Q Q Q Q (λh=>absurd h (zQV _)) Q bZ g14 Q Q (aH 5 Q (GE hm λg15 hm=>SX Q Q (aZ Q Q Q Q g15) (aI 2 Q (bU [0,1] hm Q Q))))))
   exact aM 4 Q (GE hm λg16 hm=>SX Q Q (aZ Q Q Q Q g16) (aI 2 Q (bU [0,1] hm Q Q)))
  refine aQ 2 Q (IE hm λv17 hm hz=>?_);rw [hz8 _ hz] at hm;exact WX (bP 1 Q (bM [0,1] hm Q Q))
 refine WN [5] Q Q (aQ 6 Q ?_);obtain rfl:=OJ hm;exact EndsS.one _ Q (dA Q) (.refl _)
theorem qCG {p0:Int} {r:Int} (hm:uQ p0=some r):RetN TP 232 [.int .i64 p0] (.int .i64 r):=by
 refine .unit (aN (bA Q) func232 Q ntmps232 Q Q (λwX gX=>?_)) Q;unfold uQ at hm;refine WN [0] Q Q (bK 15 Q (bG hm Q (λh1 hm=>?_) (λh1 hm=>?_)))
 ·exact aQ 7 Q (bN hm Q)
 cases hm
theorem tJ {p0:Aw} {p1:End} {r:Bool} (hm:pL p0 p1=some r):RetN TP 227 [p0.enc,p1.enc] (.bool (r)):=by
 refine .unit (aN (bA Q) func227 Q ntmps227 Q Q (λwX gX=>?_)) Q;unfold pL at hm;refine WN [0,1] Q Q (aP 1 Q (cT 0 Q Q Q (cT 1 Q Q Q (aG 3 Q (aL hm (λx1=>([(4,.d (.bool (x1)))])) (λx1=>[]) [4] [] Q (λz2 hm=>?_) (λx1 hm=>?_))))))
 ·refine iW follows ?_;iterate 3 (refine DA [0,1] TK Q ?_)
  refine d_b [0,1] TK Q (λq3 hq3=>?_);cases q3
  ·replace hm:=JF hq3 hm;iterate 25 (refine DA [0,1] TK Q ?_)
   refine DT ?_ (by kernel_rfl);exact aI 2 Q (bM [0,1] hm Q Q)
  replace hm:=JT hq3 hm;iterate 4 (refine DA [0,1] TK Q ?_)
  refine DX [0,1] Q Q (aU TK Q Q Q) ?_;iterate 2 (refine DA [0,1] TK Q ?_)
  refine d_b [0,1] TK Q (λq4 hq4=>?_);cases q4
  ·replace hm:=JF hq4 hm;iterate 17 (refine DA [0,1] TK Q ?_)
   refine DT ?_ (by kernel_rfl);exact aI 2 Q (bM [0,1] hm Q Q)
  replace hm:=JT hq4 hm;iterate 4 (refine DA [0,1] TK Q ?_)
  refine d_b [0,1] TK Q (λq5 hq5=>?_);cases q5
  ·replace hm:=JF hq5 hm;iterate 12 (refine DA [0,1] TK Q ?_)
   refine DT ?_ (by kernel_rfl);exact aI 2 Q (bM [0,1] hm Q Q)
  replace hm:=JT hq5 hm;iterate 6 (refine DA [0,1] TK Q ?_)
  refine VE hm λe6 he6 hm=>DX [0,1] Q Q (bR TK Q Q Q Q he6) ?_;iterate 2 (refine DA [0,1] TK Q ?_)
  refine fE [0,1] hm (qCG ·) Q Q Q Q λr7 hm=>?_;iterate 2 (refine DA [0,1] TK Q ?_)
  refine DT ?_ (by kernel_rfl);exact aI 2 Q (bM [0,1] hm Q Q)
 exact WN [4] Q Q (aQ 1 Q (bN hm Q))
theorem qEE {p0:(List End)} {r:Bool} (hm:xT p0=some r):RetN TP 228 [.sl 2 (p0.map End.enc)] (.bool (r)):=by
 refine .unit (aN (bA Q) func228 Q ntmps228 Q Q (λwX gX=>?_)) Q;unfold xT at hm;refine WN [0] Q Q (bK 4 Q (cI hm (λ_=>[]) (λ_=>[]) [] [] Q (λz1 hm hz1=>?_) (λj hm=>?_)))
 ·refine aP 2 Q (SX Q Q (aU TK Q Q Q) (aG 4 Q (aT hm (λx3=>([(7,.d (.int .i64 x3))])) (λx3=>[]) [7] [0,6] [] Q k0 Q Q Q Q Q (λx3 z4 hm hz4=>WN [0,6,7] Q Q (bK 5 Q (bG hm Q (λh5 hm=>?_) (λh5 hm=>?_)))))))
  ·refine cR 2 Q (cI hm (λ_=>[]) (λ_=>[]) [] [0,6,7] Q (λz6 hm hz6=>?_) (λj hm=>?_))
   ·refine bK 12 Q (aT hm (λx8=>([(11,.d (.int .i64 x8))])) (λx8=>[]) [11] [0,3,6,7,10] [] Q k0 Q Q Q Q Q (λx8 z9 hm hz9=>WN [0,3,6,7,10,11] Q Q (bK 5 Q (bG hm Q (λh10 hm=>?_) (λh10 hm=>?_)))))
    ·refine cR 9 Q (bV follows ?_);iterate 2 (refine DA [] TK Q ?_)
     refine VE hm λe11 he11 hm=>DX [] Q Q (bR TK Q Q Q Q he11) ?_;iterate 3 (refine DA [] TK Q ?_)
     refine VE hm λe12 he12 hm=>DX [] Q Q (bR TK Q Q Q Q he12) (DA [] TK Q (GE hm λg13 hm=>DX [] Q Q (qMF Q Q Q g13.1 g13.2) ?_));refine DT ?_ (by kernel_rfl);refine aG 2 Q (bG hm Q (λh15 hm=>?_) (λh15 hm=>?_))
     ·cases hm
     exact aM 4 Q (GE hm λg16 hm=>SX Q Q (aZ Q Q Q Q g16) (aI 2 Q (bU [] hm Q Q)))
    refine aQ 2 Q (IE hm λv17 hm hz=>?_);rw [hz9 _ hz] at hm;exact WX (bP 2 Q (bU [] hm Q Q))
   exact WN [0,6,7] Q Q (aM 1 Q (GE hm λg18 hm=>SX Q Q (aZ Q Q Q Q g18) (aI 2 Q (bU [] hm Q Q))))
  refine aQ 2 Q (IE hm λv19 hm hz=>?_);rw [hz4 _ hz] at hm;exact WX (bP 1 Q (bU [] hm Q Q))
 exact WN [] Q Q (aQ 5 Q (bN hm Q))
theorem qGB {p0:Aw} {r:Int} (hm:tK p0=some r):RetN TP 187 [p0.enc] (.int .i64 r):=by
 refine .unit (aN (bA Q) func187 Q ntmps187 Q Q (λwX gX=>?_)) Q;unfold tK at hm;refine WN [0] Q Q (aP 1 Q (cT 0 Q Q Q (aG 3 Q (cI hm (λ_=>[]) (λ_=>[]) [] [1] Q (λz1 hm hz1=>?_) (λj hm=>?_)))))
 ·refine aP 3 Q (SX Q Q (aU TK Q Q Q) (aG 4 Q (aT hm (λx3=>([(12,.d (.int .i64 x3))])) (λx3=>[]) [12] [1,10,11] [0] Q k0 Q Q Q Q Q (λx3 z4 hm hz4=>WN [1,10,11,12] Q Q (bK 5 Q (bG hm Q (λh5 hm=>?_) (λh5 hm=>?_)))))))
  ·refine aM 5 Q (VE hm λe6 he6 hm=>SX Q Q (bR TK Q Q Q Q he6) (aH 1 Q (cD 1 Q Q xF Q (aH 6 Q (c_N hm (qNA ·) Q Q Q Q λr7 hm=>aG 3 Q (cP hm Q (λh8 hm=>?_) (λh8 hm=>?_)))))))
   ·cases hm
   exact aM 4 Q (GE hm λg9 hm=>SX Q Q (aZ Q Q Q Q g9) (aI 2 Q (bU [0] hm Q Q)))
  refine aQ 2 Q (IE hm λv10 hm hz=>?_);rw [hz4 _ hz] at hm;exact WX (bP 1 Q (bU [0] hm Q Q))
 refine WN [1] Q Q (cI hm (λ_=>[]) (λ_=>[]) [] [1] Q (λz11 hm hz11=>?_) (λj hm=>?_))
 ·refine aP 3 Q (SX Q Q (aU TK Q Q Q) (aG 4 Q (aT hm (λx13=>([(24,.d (.int .i64 x13))])) (λx13=>[]) [24] [1,23] [0] Q k0 Q Q Q Q Q (λx13 z14 hm hz14=>WN [1,23,24] Q Q (bK 5 Q (bG hm Q (λh15 hm=>?_) (λh15 hm=>?_)))))))
  ·refine aM 12 Q (c_D hm (qID ·) Q Q Q Q λr16 hm=>SX Q Q (aU TK Q Q Q) (aG 3 Q (bG hm Q (λh17 hm=>?_) (λh17 hm=>?_))))
   ·cases hm
   exact aM 4 Q (GE hm λg18 hm=>SX Q Q (aZ Q Q Q Q g18) (aI 2 Q (bU [0] hm Q Q)))
  refine aQ 2 Q (IE hm λv19 hm hz=>?_);rw [hz14 _ hz] at hm;exact WX (bP 1 Q (bU [0] hm Q Q))
 refine WN [1] Q Q (aM 1 Q (fM (f:=End.enc) 1 125 2 Q Q Q (aG 2 Q (cI hm (λb20=>([(6,.msl 1 2 0 b20.length)])) (λb20=>([(1,.flat 125 2 (b20.map End.enc))])) [6] [] Q (λz21 hm hz21=>?_) (λb20 hm=>?_)))))
 ·refine aP 3 Q (SX Q Q (aU TK Q Q Q) (aG 4 Q (aT hm (λ(x25,b26)=>([(6,.msl 1 2 0 b26.length),(36,.d (.int .i64 x25))])) (λ(x25,b26)=>([(1,.flat 125 2 (b26.map End.enc))])) [6,36] [1,34,35] [0,1] Q k0 Q Q Q Q Q (λs z27 hm hz27=>?_))));obtain⟨x25,b26⟩:=s;refine WN [1,6,34,35,36] Q Q (bK 5 Q (bG hm Q (λh28 hm=>?_) (λh28 hm=>?_)))
  ·refine aM 5 Q (VE hm λe29 he29 hm=>SX Q Q (bR TK Q Q Q Q he29) (aH 1 Q (cD 2 Q Q qDT Q (aG 4 Q (aL hm (λx30=>([(58,.d (.bool (x30)))])) (λx30=>[]) [58] [1,6,8,34,35,36] Q (λz31 hm=>?_) (λx30 hm=>?_))))))
   ·refine aP 4 Q (c_N hm (tJ ·) Q Q Q Q λr32 hm=>aH 1 Q (SB TK Q (λq33 hq33=>?_)));cases q33
    ·replace hm:=JB hq33 hm;refine aH 3 Q (c_N hm (tJ ·) Q Q Q Q λr34 hm=>aH 2 Q (SB TK Q (λq35 hq35=>?_)));cases q35
     ·replace hm:=JB hq35 hm;exact aH 4 Q (GE hm λg36 hm=>SX Q Q (qMF Q Q Q g36.1 g36.2) (aI 2 Q (bM [0,1,2] hm Q Q)))
     replace hm:=JA hq35 hm;exact aI 7 Q (bM [0,1,2] hm Q Q)
    replace hm:=JA hq33 hm;exact aI 14 Q (bM [0,1,2] hm Q Q)
   refine WN [1,6,8,34,35,36,58] Q Q (cP hm Q (λh38 hm=>?_) (λh38 hm=>?_))
   ·cases hm
   exact aM 8 Q (SX Q Q (cM [.tmp 61,.tmp 63] TK Q Q jK Q Q Q Q Q) (GE hm λg39 hm=>cF (f:=End.enc) ([e29.a,e29.b]:List End) TK Q Q jK Q Q Q Q Q (λh=>absurd h (zQV _)) Q bZ g39 Q Q (aH 5 Q (GE hm λg40 hm=>SX Q Q (aZ Q Q Q Q g40) (aI 2 Q (bU [0,1] hm Q Q))))))
  refine aQ 2 Q (IE hm λv41 hm hz=>?_);rw [hz27 _ hz] at hm;exact WX (bP 1 Q (bU [0,1] hm Q Q))
 refine WN [6] Q Q (aM 3 Q (BE hm λr42 hr42 hm=>SX Q Q (RN Q Q (SC (dA Q) SN) (qEE hr42)) (aG 2 Q (cP hm Q (λh43 hm=>?_) (λh43 hm=>?_)))))
 ·cases hm
 exact aQ 7 Q (bN hm Q)
theorem qKJ {p0:Aw} {p1:End} {r0:End} {r1:Bool} (hm:mJ p0 p1=some (r0,r1)):Ret TP 132 [] (λ_=>false) ([p0.enc,p1.enc].map .d) (.tup ([r0.enc,.bool (r1)].map .d)) []:=by
 refine jY (bA Q) func132 Q ntmps132 Q Q (λwX gX=>?_);unfold mJ at hm;refine WN [0,1] Q Q (aP 1 Q (cT 0 Q Q Q (cT 1 Q Q Q (cD 2 Q Q jK Q (aG 3 Q (cI hm (λ_=>[]) (λ_=>[]) [] [4] Q (λz1 hm hz1=>?_) (λj hm=>?_)))))))
 ·refine aP 3 Q (SX Q Q (aU TK Q Q Q) (aG 4 Q (aT hm (λx3=>([(11,.d (.int .i64 x3))])) (λx3=>[]) [11] [3,4,9,10] [0,1,2] Q k0 Q Q Q Q Q (λx3 z4 hm hz4=>WN [3,4,9,10,11] Q Q (bK 5 Q (bG hm Q (λh5 hm=>?_) (λh5 hm=>?_)))))))
  ·refine aM 5 Q (VE hm λe6 he6 hm=>SX Q Q (bR TK Q Q Q Q he6) (aH 1 Q (cD 3 Q Q qDT Q (aH 8 Q (GE hm λg7 hm=>SX Q Q (qMF Q Q Q g7.1 g7.2) (aG 2 Q (bG hm Q (λh9 hm=>?_) (λh9 hm=>?_))))))))
   ·refine aQ 11 Q (IE hm λv10 hm hz=>?_);rw [hz4 _ hz] at hm;refine WR (bP 1 Q (IE hm λv11 hm hz=>?_));rw [hz1 _ hz] at hm;refine WR ?_;obtain⟨rfl,rfl⟩:=Prod.mk.inj (Option.some.inj hm);exact⟨_,.mk _ (.cons (.agg (TK.lay Q) Q Q Q Q) (.cons (.tmp 5) .nil)) Q,(.cons (.d _) (.refl _) (.cons (.d _) (.refl _) .nil))⟩
   refine aM 6 Q (GE hm λg12 hm=>SX Q Q (qMF Q Q Q g12.1 g12.2) (aG 2 Q (bG hm Q (λh14 hm=>?_) (λh14 hm=>?_))))
   ·cases hm
   exact aM 4 Q (GE hm λg15 hm=>SX Q Q (aZ Q Q Q Q g15) (aI 2 Q (bU [0,1,2] hm Q Q)))
  refine aQ 2 Q (IE hm λv16 hm hz=>?_);rw [hz4 _ hz] at hm;exact WX (bP 1 Q (bU [0,1,2] hm Q Q))
 refine WN [4] Q Q (aM 1 Q (SX Q Q (cJ Q xY jK Q Q Q Q) (aI 5 Q ?_)));obtain⟨rfl,rfl⟩:=Prod.mk.inj (Option.some.inj hm);exact⟨_,.mk _ (.cons (.agg (TK.lay Q) Q Q Q Q) (.cons (.tmp 5) .nil)) Q,(.cons (.d _) (.refl _) (.cons (.d _) (.refl _) .nil))⟩
theorem pM {p0:Aw} {p1:End} {r0:End} {r1:Bool} (hm:mJ p0 p1=some (r0,r1)):RetT TP 132 [p0.enc,p1.enc] [r0.enc,.bool (r1)]:=.of (mv:=λ_=>false) (qKJ hm)
theorem qHZ {p0:Aw} {r:Int} (hm:vH p0=some r):RetN TP 188 [p0.enc] (.int .i64 r):=by
 refine .unit (aN (bA Q) func188 Q ntmps188 Q Q (λwX gX=>?_)) Q;unfold vH at hm;refine WN [0] Q Q (aP 1 Q (cT 0 Q Q Q (aH 4 Q (fM (f:=End.enc) 1 125 2 Q Q Q (aG 2 Q (cI hm (λb1=>([(3,.msl 1 2 0 b1.length)])) (λb1=>([(1,.flat 125 2 (b1.map End.enc))])) [3] [1] Q (λz2 hm hz2=>?_) (λb1 hm=>?_)))))))
 ·refine aP 3 Q (SX Q Q (aU TK Q Q Q) (aG 4 Q (aT hm (λ(x6,b7)=>([(3,.msl 1 2 0 b7.length),(13,.d (.int .i64 x6))])) (λ(x6,b7)=>([(1,.flat 125 2 (b7.map End.enc))])) [3,13] [1,11,12] [0,1] Q k0 Q Q Q Q Q (λs z8 hm hz8=>?_))));obtain⟨x6,b7⟩:=s;refine WN [1,3,11,12,13] Q Q (bK 5 Q (bG hm Q (λh9 hm=>?_) (λh9 hm=>?_)))
  ·refine aM 5 Q (VE hm λe10 he10 hm=>SX Q Q (bR TK Q Q Q Q he10) (aH 1 Q (cD 2 Q Q sC Q (aG 4 Q (aL hm (λx11=>([(31,.d (.bool (x11)))])) (λx11=>[]) [31] [1,3,5,11,12,13] Q (λz12 hm=>?_) (λx11 hm=>?_))))))
   ·refine aP 4 Q (c_N hm (tJ ·) Q Q Q Q λr13 hm=>aH 1 Q (SB TK Q (λq14 hq14=>?_)));cases q14
    ·replace hm:=JB hq14 hm;refine aH 4 Q (SB TK Q (λq15 hq15=>?_));cases q15
     ·replace hm:=JF hq15 hm;exact aI 5 Q (bM [0,1,2] hm Q Q)
     replace hm:=JT hq15 hm;exact aI 5 Q (bM [0,1,2] hm Q Q)
    replace hm:=JA hq14 hm;exact aI 10 Q (bM [0,1,2] hm Q Q)
   refine WN [1,3,5,11,12,13,31] Q Q (cP hm Q (λh16 hm=>?_) (λh16 hm=>?_))
   ·cases hm
   exact aM 6 Q (SX Q Q (cM [.tmp 34] TK Q Q jK Q Q Q Q Q) (GE hm λg17 hm=>cF (f:=End.enc) ([e10.atV]:List End) TK Q Q jK Q Q Q Q Q (λh=>absurd h (zQV _)) Q bZ g17 Q Q (aH 5 Q (GE hm λg18 hm=>SX Q Q (aZ Q Q Q Q g18) (aI 2 Q (bU [0,1] hm Q Q))))))
  refine aQ 2 Q (IE hm λv19 hm hz=>?_);rw [hz8 _ hz] at hm;exact WX (bP 1 Q (bU [0,1] hm Q Q))
 refine WN [1,3] Q Q (aM 3 Q (BE hm λr20 hr20 hm=>SX Q Q (RN Q Q (SC (dA Q) SN) (qEE hr20)) (aG 2 Q (cP hm Q (λh21 hm=>?_) (λh21 hm=>?_)))))
 ·cases hm
 refine cR 2 Q (cI hm (λ_=>[]) (λ_=>[]) [] [] Q (λz22 hm hz22=>?_) (λj hm=>?_))
 ·refine bK 7 Q (aT hm (λx24=>([(42,.d (.int .i64 x24))])) (λx24=>[]) [42] [1,40,41] [0,1] Q k0 Q Q Q Q Q (λx24 z25 hm hz25=>WN [1,40,41,42] Q Q (bK 5 Q (bG hm Q (λh26 hm=>?_) (λh26 hm=>?_)))))
  ·refine aM 5 Q (VE hm λe27 he27 hm=>SX Q Q (sS TK Q Q Q Q he27 Q) (SX Q Q (vW TK Q Q Q Q he27.2 Q) (cD 2 Q Q jK Q (aH 6 Q (BE hm λr28 hr28 hm=>?_)))));obtain⟨r29,r30⟩:=r28;refine SX Q Q (jL Q Q Q (pM hr28)) (aH 3 Q (cD 3 Q Q jK Q (aG 4 Q (aL hm (λx31=>([(70,.d (.bool (x31)))])) (λx31=>[]) [70] [1,40,41,42] Q (λz32 hm=>?_) (λx31 hm=>?_)))))
   ·refine iW follows ?_;iterate 2 (refine DA [0,1,2,3] TK Q ?_)
    refine d_b [0,1,2,3] TK Q (λq33 hq33=>?_);cases q33
    ·replace hm:=JB hq33 hm;iterate 4 (refine DA [0,1,2,3] TK Q ?_)
     refine VE hm λe34 he34 hm=>DX [0,1,2,3] Q Q (bR TK Q Q Q Q he34) ?_;iterate 6 (refine DA [0,1,2,3] TK Q ?_)
     refine VE hm λe35 he35 hm=>DX [0,1,2,3] Q Q (bR TK Q Q Q Q he35) ?_;iterate 4 (refine DA [0,1,2,3] TK Q ?_)
     refine DT ?_ (by kernel_rfl);exact aI 1 Q (bM [0,1,2,3] hm Q Q)
    replace hm:=JA hq33 hm;iterate 16 (refine DA [0,1,2,3] TK Q ?_)
    refine DT ?_ (by kernel_rfl);exact aI 1 Q (bM [0,1,2,3] hm Q Q)
   refine WN [1,40,41,42,70] Q Q (cP hm Q (λh36 hm=>?_) (λh36 hm=>?_))
   ·cases hm
   exact aM 4 Q (GE hm λg37 hm=>SX Q Q (aZ Q Q Q Q g37) (aI 2 Q (bU [0,1] hm Q Q)))
  refine aQ 2 Q (IE hm λv38 hm hz=>?_);rw [hz25 _ hz] at hm;exact WX (bP 1 Q (bU [0,1] hm Q Q))
 exact WN [] Q Q (aQ 5 Q (bN hm Q))
theorem qIA {p0:(List Int)} {r:Bool} (hm:vI p0=some r):RetN TP 229 [.sl 1 (p0.map (D.int .i64))] (.bool (r)):=by
 refine .unit (aN (bA Q) func229 Q ntmps229 Q Q (λwX gX=>?_)) Q;unfold vI at hm;refine WN [0] Q Q (bK 4 Q (cI hm (λ_=>[]) (λ_=>[]) [] [] Q (λz1 hm hz1=>?_) (λj hm=>?_)))
 ·refine aP 2 Q (SX Q Q (aU TK Q Q Q) (aG 4 Q (aT hm (λx3=>([(7,.d (.int .i64 x3))])) (λx3=>[]) [7] [0,6] [] Q k0 Q Q Q Q Q (λx3 z4 hm hz4=>WN [0,6,7] Q Q (bK 5 Q (bG hm Q (λh5 hm=>?_) (λh5 hm=>?_)))))))
  ·cases hm
  refine aQ 2 Q (IE hm λv6 hm hz=>?_);rw [hz4 _ hz] at hm;exact WX (bP 1 Q (bU [] hm Q Q))
 exact WN [] Q Q (aQ 5 Q (bN hm Q))
theorem qIB {p0:Aw} {r:Int} (hm:vJ p0=some r):RetN TP 189 [p0.enc] (.int .i64 r):=by
 refine .unit (aN (bA Q) func189 Q ntmps189 Q Q (λwX gX=>?_)) Q;unfold vJ at hm;refine WN [0] Q Q (aP 1 Q (cT 0 Q Q Q (aH 4 Q (fM (f:=(D.int .i64)) 1 3 1 Q Q Q (aG 2 Q (cI hm (λ_=>([(3,.msl 1 1 0 ([]:List Int).length)])) (λ_=>[]) [3] [] Q (λz1 hm hz1=>?_) (λj hm=>?_)))))))
 ·refine aP 3 Q (SX Q Q (aU TK Q Q Q) (aG 4 Q (aT hm (λx3=>([(3,.msl 1 1 0 ([]:List Int).length),(9,.d (.int .i64 x3))])) (λx3=>[]) [3,9] [1,7,8] [0,1] Q k0 Q Q Q Q Q (λx3 z4 hm hz4=>WN [1,3,7,8,9] Q Q (bK 5 Q (bG hm Q (λh5 hm=>?_) (λh5 hm=>?_)))))))
  ·cases hm
  refine aQ 2 Q (IE hm λv6 hm hz=>?_);rw [hz4 _ hz] at hm;exact WX (bP 1 Q (bU [0,1] hm Q Q))
 refine WN [3] Q Q (aM 3 Q (BE hm λr7 hr7 hm=>SX Q Q (RN Q Q (SC (dA Q) SN) (qIA hr7)) (aG 2 Q (cP hm Q (λh8 hm=>?_) (λh8 hm=>?_)))))
 ·cases hm
 exact aQ 7 Q (bN hm Q)
theorem qND {p0:Aw} {r:Int} (hm:zR p0=some r):RetN TP 125 [p0.enc] (.int .i64 r):=by
 refine .unit (aN (bA Q) func125 Q ntmps125 Q Q (λwX gX=>?_)) Q;unfold zR at hm;refine WN [0] Q Q (aP 1 Q (cT 0 Q Q Q (aH 6 Q (c_N hm (qNC ·) Q Q Q Q λr1 hm=>aG 8 Q (qD hm Q (λh2 hm=>?_) (λh2 hm=>?_))))))
 ·cases hm
 refine aM 5 Q (c_N hm (qGB ·) Q Q Q Q λr3 hm=>aG 8 Q (qD hm Q (λh4 hm=>?_) (λh4 hm=>?_)))
 ·cases hm
 refine aM 5 Q (c_N hm (qHZ ·) Q Q Q Q λr5 hm=>aG 8 Q (WN [1,5,19] Q Q (qD hm Q (λh6 hm=>?_) (λh6 hm=>?_))))
 ·cases hm
 exact aM 4 Q (c_N hm (qIB ·) Q Q Q Q λr7 hm=>aI 4 Q (bN hm Q))
theorem pJ {p0:Aw} {p1:Int} {r:Bool} (hm:nQ p0 p1=some r):RetN TP 202 [p0.enc,.int .i64 p1] (.bool (r)):=by
 refine .unit (aN (bA Q) func202 Q ntmps202 Q Q (λwX gX=>?_)) Q;unfold nQ at hm;refine WN [0,1] Q Q (aP 1 Q (cT 0 Q Q Q (aG 3 Q (iC [(4,.d (.bool (((decide ((0:Int)<=p1))&&(decide (p1 < (p0.A0.length:Int)))))))] [4] [] Q ?_ ?_))))
 ·refine aP 3 Q (SB TK Q (λq1 hq1=>?_));cases q1
  ·refine aI 8 Q ?_;exact⟨[0],Q,k0,bX (aV (aX (by first|(simp [hq1];done)|(simp only [hq1];simp))) Q) Q⟩
  refine aH 3 Q (SX Q Q (aU TK Q Q Q) (aI 4 Q ?_));exact⟨[0],Q,k0,bX (aV (aX (by first|(simp [hq1];done)|(simp only [hq1];simp))) Q) Q⟩
 exact WN [4] Q Q (aQ 1 Q (bN hm Q))
theorem qPV {p0:Int} {p1:Int} {p2:Int} {r0:Int} {r1:Bool} (hm:qI p0 p1 p2=some (r0,r1)):Ret TP 231 [] (λ_=>false) ([.int .i64 p0,.int .i64 p1,.int .i64 p2].map .d) (.tup ([.int .i64 r0,.bool (r1)].map .d)) []:=by
 refine jY (bA Q) func231 Q ntmps231 Q Q (λwX gX=>?_);unfold qI at hm;refine WN [0,1,2] Q Q (aP 8 Q (SX Q Q (rd_min Q Q Q Q) (aH 6 Q (SX Q Q (qKK Q Q Q Q) (aG 4 Q ?_)))));refine iC [(21,.d (.bool (((decide (p0=(1:Int)))||(decide (p0=(3:Int)))))))] [21] [0,8,9] Q ?_ ?_
 ·refine aP 3 Q (SB TK Q (λq1 hq1=>?_));cases q1
  ·refine aI 4 Q ?_;exact⟨[],Q,k0,bX (aV (aX (by first|(simp [hq1];done)|(simp only [hq1];simp))) Q) Q⟩
  refine aI 4 Q ?_;exact⟨[],Q,k0,bX (aV (aX (by first|(simp [hq1];done)|(simp only [hq1];simp))) Q) Q⟩
 refine WN [0,8,9,21] Q Q (cP hm Q (λh2 hm=>?_) (λh2 hm=>?_))
 ·refine iC [(6,.d (.int .i64 (0:Int))),(7,.d (.bool ((bif decide ((min p1 p2)=(0:Int)) then ((decide ((max p1 p2)=(1:Int)))||((decide (p0=(3:Int)))&&((decide ((min p1 p2)=(2:Int)))&&(decide ((max p1 p2)=(3:Int)))))) else ((decide (p0=(3:Int)))&&((decide ((min p1 p2)=(2:Int)))&&(decide ((max p1 p2)=(3:Int)))))))))] [6,7] [] Q ?_ ?_
  ·refine aP 3 Q (SB TK Q (λq3 hq3=>?_));cases q3
   ·refine aH 6 Q (SB TK Q (λq4 hq4=>?_));cases q4
    ·refine aI 11 Q ?_;exact⟨[],Q,k0,bX (aV Q (aV (aX (by first|(simp [hq3,hq4];done)|(simp only [hq3,hq4];simp))) Q)) Q⟩
    refine aH 3 Q (SB TK Q (λq5 hq5=>?_));cases q5
    ·refine aI 7 Q ?_;exact⟨[],Q,k0,bX (aV Q (aV (aX (by first|(simp [hq3,hq4,hq5];done)|(simp only [hq3,hq4,hq5];simp))) Q)) Q⟩
    refine aI 7 Q ?_;exact⟨[],Q,k0,bX (aV Q (aV (aX (by first|(simp [hq3,hq4,hq5];done)|(simp only [hq3,hq4,hq5];simp))) Q)) Q⟩
   refine aH 3 Q (SB TK Q (λq6 hq6=>?_));cases q6
   ·refine aH 2 Q (SB TK Q (λq7 hq7=>?_));cases q7
    ·refine aI 11 Q ?_;exact⟨[],Q,k0,bX (aV Q (aV (aX (by first|(simp [hq3,hq6,hq7];done)|(simp only [hq3,hq6,hq7];simp))) Q)) Q⟩
    refine aH 3 Q (SB TK Q (λq8 hq8=>?_));cases q8
    ·refine aI 7 Q ?_;exact⟨[],Q,k0,bX (aV Q (aV (aX (by first|(simp [hq3,hq6,hq7,hq8];done)|(simp only [hq3,hq6,hq7,hq8];simp))) Q)) Q⟩
    refine aI 7 Q ?_;exact⟨[],Q,k0,bX (aV Q (aV (aX (by first|(simp [hq3,hq6,hq7,hq8];done)|(simp only [hq3,hq6,hq7,hq8];simp))) Q)) Q⟩
   refine aI 14 Q ?_;exact⟨[],Q,k0,bX (aV Q (aV (aX (by first|(simp [hq3,hq6];done)|(simp only [hq3,hq6];simp))) Q)) Q⟩
  refine WN [6,7] Q Q (aQ 2 Q ?_);obtain⟨rfl,rfl⟩:=Prod.mk.inj (Option.some.inj hm);exact EndsT.two Q (.d _) (.refl _) (.d _) (.refl _)
 cases hm
theorem xW {p0:Int} {p1:Int} {p2:Int} {r0:Int} {r1:Bool} (hm:qI p0 p1 p2=some (r0,r1)):RetT TP 231 [.int .i64 p0,.int .i64 p1,.int .i64 p2] [.int .i64 r0,.bool (r1)]:=.of (mv:=λ_=>false) (qPV hm)
theorem qPW {p0:Int} {p1:Int} {r:(List Int)} (hm:qDF p0 p1=some r):RetD TP 203 [.int .i64 p0,.int .i64 p1] (.sl 1 (r.map (D.int .i64))):=by
 refine .of (mv:=λ_=>false) (aN (bA Q) func203 Q ntmps203 Q Q (λwX gX=>?_));unfold qDF at hm;refine WN [0,1] Q Q (aP 5 Q (fM (f:=(D.int .i64)) 0 3 1 Q Q Q (aG 2 Q (aL hm (λb1=>([(5,.msl 0 1 0 b1.length)])) (λb1=>([(0,.flat 3 1 (b1.map (D.int .i64)))])) [5] [] Q (λz2 hm=>?_) (λb1 hm=>?_)))))
 ·refine bK 5 Q (aT hm (λ(side6,b7)=>([(5,.msl 0 1 0 b7.length),(6,.d (.int .i64 side6))])) (λ(side6,b7)=>([(0,.flat 3 1 (b7.map (D.int .i64)))])) [5,6] [0,1] [0] Q k0 Q Q Q Q Q (λs z8 hm hz8=>?_));obtain⟨side6,b7⟩:=s;refine WN [0,1,5,6] Q Q (bK 6 Q (bG hm Q (λh9 hm=>?_) (λh9 hm=>?_)))
  ·refine aM 8 Q (BE hm λr10 hr10 hm=>?_);obtain⟨r11,r12⟩:=r10;refine SX Q Q (jL Q Q Q (xW hr10)) (aG 11 Q (cP hm Q (λh13 hm=>?_) (λh13 hm=>?_)))
   ·exact aM 3 Q (SX Q Q (cM [.tmp 22] TK Q Q gR Q Q Q Q Q) (GE hm λg14 hm=>cF (f:=(D.int .i64)) ([side6]:List Int) TK Q Q gR Q Q Q Q Q (λh=>absurd h (zQV _)) Q bZ g14 Q Q (aG 4 Q (WN [0,1,5,6] Q Q (aM 2 Q (GE hm λg15 hm=>SX Q Q (aZ Q Q Q Q g15) (aI 2 Q (bU [0] hm Q Q))))))))
   exact aM 5 Q (GE hm λg16 hm=>SX Q Q (aZ Q Q Q Q g16) (aI 2 Q (bU [0] hm Q Q)))
  refine aQ 2 Q (IE hm λv17 hm hz=>?_);rw [hz8 _ hz] at hm;exact WX (bP 1 Q (bM [0] hm Q Q))
 refine WN [5] Q Q (aQ 6 Q ?_);obtain rfl:=OJ hm;exact EndsS.one _ Q (dA Q) (.refl _)
theorem qGA {p0:Aw} {p1:End} {r:(List Ay)} (hm:tI p0 p1=some r):RetD TP 135 [p0.enc,p1.enc] (.sl 3 (r.map Ay.enc)):=by
 refine .of (mv:=λ_=>false) (aN (bA Q) func135 Q ntmps135 Q Q (λwX gX=>?_));unfold tI at hm;refine WN [0,1] Q Q (aP 1 Q (cT 0 Q Q Q (cT 1 Q Q Q (aH 8 Q (c_N hm (pJ ·) Q Q Q Q λr1 hm=>aG 3 Q (cP hm Q (λh2 hm=>?_) (λh2 hm=>?_)))))))
 ·cases hm
 refine cR 2 Q (bV follows ?_);iterate 4 (refine DA [0,1] TK Q ?_)
 refine VE hm λe3 he3 hm=>DX [0,1] Q Q (bR TK Q Q Q Q he3) ?_;iterate 4 (refine DA [0,1] TK Q ?_)
 refine cL [0,1] hm (qPW ·) Q Q Q Q λr4 hm=>?_;refine DT ?_ (by kernel_rfl);refine aG 3 Q (WN [3,5] Q Q (aM 1 Q (fM (f:=Ay.enc) 2 177 3 Q Q Q (aG 2 Q (aL hm (λb5=>([(6,.msl 2 3 0 b5.length)])) (λb5=>([(2,.flat 177 3 (b5.map Ay.enc))])) [6] [] Q (λz6 hm=>?_) (λb5 hm=>?_))))))
 ·refine bK 5 Q (aT hm (λ(i10,b11)=>([(6,.msl 2 3 0 b11.length),(7,.d (.int .i64 i10))])) (λ(i10,b11)=>([(2,.flat 177 3 (b11.map Ay.enc))])) [6,7] [3,5] [0,1,2] Q k0 Q Q Q Q Q (λs z12 hm hz12=>?_));obtain⟨i10,b11⟩:=s;refine WN [3,5,6,7] Q Q (aP 4 Q (SX Q Q (aU TK Q Q Q) (aG 3 Q (bG hm Q (λh13 hm=>?_) (λh13 hm=>?_)))))
  ·refine cR 4 Q (cU follows ?_);iterate 7 (refine DA [0,1,2] TK Q ?_)
   refine VE hm λe14 he14 hm=>DX [0,1,2] Q Q (bR TK Q Q Q Q he14) (DA [0,1,2] TK Q (DX [0,1,2] Q Q (cJ Q plc177 qAV Q Q Q Q) (DX [0,1,2] Q Q (cM [.tmp 38] TK Q Q qAV Q Q Q Q Q) ?_)));refine DT ?_ (by kernel_rfl);exact GE hm λg15 hm=>cF (f:=Ay.enc) ([(⟨p1.el,p1.side,e14⟩:Ay)]:List Ay) TK Q Q qAV Q Q Q Q Q (λh=>absurd h (zQV _)) Q bZ g15 Q Q (aG 4 Q (WN [3,5,6,7] Q Q (aM 2 Q (GE hm λg16 hm=>SX Q Q (aZ Q Q Q Q g16) (aI 2 Q (bU [0,1,2] hm Q Q))))))
  refine aQ 2 Q (IE hm λv17 hm hz=>?_);rw [hz12 _ hz] at hm;exact WX (bP 1 Q (bM [0,1,2] hm Q Q))
 refine WN [6] Q Q (aQ 6 Q ?_);obtain rfl:=OJ hm;exact EndsS.one _ Q (dA Q) (.refl _)
theorem qPS {p0:Aw} {p1:Ay} {r0:Int} {r1:Bool} (hm:tH p0 p1=some (r0,r1)):Ret TP 204 [] (λ_=>false) ([p0.enc,p1.enc].map .d) (.tup ([.int .i64 r0,.bool (r1)].map .d)) []:=by
 refine jY (bA Q) func204 Q ntmps204 Q Q (λwX gX=>?_);unfold tH at hm;refine WN [0,1] Q Q (aP 1 Q (cT 0 Q Q Q (cT 1 Q Q Q (aH 9 Q (c_N hm (pJ ·) Q Q Q Q λr1 hm=>aG 3 Q (cP hm Q (λh2 hm=>?_) (λh2 hm=>?_)))))))
 ·cases hm
 refine cR 2 Q (bV follows ?_);iterate 4 (refine DA [0,1] TK Q ?_)
 refine VE hm λe3 he3 hm=>DX [0,1] Q Q (bR TK Q Q Q Q he3) ?_;iterate 6 (refine DA [0,1] TK Q ?_)
 refine BE hm λr4 hr4 hm=>?_;obtain⟨r5,r6⟩:=r4;refine DX [0,1] Q Q (jL Q Q Q (xW hr4)) ?_;iterate 2 (refine DA [0,1] TK Q ?_)
 refine DT ?_ (by kernel_rfl);refine aG 4 Q (WN [4,5] Q Q (aQ 1 Q ?_));obtain⟨rfl,rfl⟩:=Prod.mk.inj (Option.some.inj hm);exact EndsT.two Q (.d _) (.refl _) (.d _) (.refl _)
theorem qED {p0:Aw} {p1:Ay} {r0:Int} {r1:Bool} (hm:tH p0 p1=some (r0,r1)):RetT TP 204 [p0.enc,p1.enc] [.int .i64 r0,.bool (r1)]:=.of (mv:=λ_=>false) (qPS hm)
theorem qPT {p0:Aw} {p1:Ay} {r0:End} {r1:Bool} (hm:xS p0 p1=some (r0,r1)):Ret TP 136 [] (λ_=>false) ([p0.enc,p1.enc].map .d) (.tup ([r0.enc,.bool (r1)].map .d)) []:=by
 refine jY (bA Q) func136 Q ntmps136 Q Q (λwX gX=>?_);unfold xS at hm;refine WN [0,1] Q Q (aP 1 Q (cT 0 Q Q Q (cT 1 Q Q Q (cD 2 Q Q jK Q (aH 9 Q (SX Q Q (cJ Q xY jK Q Q Q Q) (BE hm λr1 hr1 hm=>?_)))))));obtain⟨r2,r3⟩:=r1;refine SX Q Q (jL Q Q Q (pM hr1)) (aI 7 Q ?_);obtain⟨rfl,rfl⟩:=Prod.mk.inj (Option.some.inj hm);exact⟨_,.mk _ (.cons (.agg (TK.lay Q) Q Q Q Q) (.cons (.tmp 5) .nil)) Q,(.cons (.d _) (.refl _) (.cons (.d _) (.refl _) .nil))⟩
theorem qPU {p0:Aw} {p1:Ay} {r0:End} {r1:Bool} (hm:xS p0 p1=some (r0,r1)):RetT TP 136 [p0.enc,p1.enc] [r0.enc,.bool (r1)]:=.of (mv:=λ_=>false) (qPT hm)
theorem qMZ {p0:Aw} {p1:(List Ay)} {r:Bool} (hm:zM p0 p1=some r):RetN TP 247 [p0.enc,.sl 3 (p1.map Ay.enc)] (.bool (r)):=by
 refine .unit (aN (bA Q) func247 Q ntmps247 Q Q (λwX gX=>?_)) Q;unfold zM at hm;refine WN [0,1] Q Q (aP 1 Q (cT 0 Q Q Q (aG 4 Q ?_)));refine iC [(18,.d (.bool (((decide ((p1.length:Int)=(0:Int)))||(decide ((64:Int) < (p1.length:Int)))))))] [18] [1,2] Q ?_ ?_
 ·refine aP 2 Q (SX Q Q (aU TK Q Q Q) (aH 1 Q (SB TK Q (λq1 hq1=>?_))));cases q1
  ·refine aH 1 Q (SX Q Q (aU TK Q Q Q) (aI 3 Q ?_));exact⟨[0],Q,k0,bX (aV (aX (by first|(simp [hq1];done)|(simp only [hq1];simp))) Q) Q⟩
  refine aI 5 Q ?_;exact⟨[0],Q,k0,bX (aV (aX (by first|(simp [hq1];done)|(simp only [hq1];simp))) Q) Q⟩
 refine WN [1,2,18] Q Q (cP hm Q (λh2 hm=>?_) (λh2 hm=>?_))
 ·cases hm
 refine cR 2 Q (cI hm (λ_=>[]) (λ_=>[]) [] [] Q (λz3 hm hz3=>?_) (λj hm=>?_))
 ·refine bK 5 Q (aT hm (λi5=>([(5,.d (.int .i64 i5))])) (λi5=>[]) [5] [1,2] [0] Q k0 Q Q Q Q Q (λi5 z6 hm hz6=>WN [1,2,5] Q Q (aP 4 Q (SX Q Q (aU TK Q Q Q) (aG 3 Q (bG hm Q (λh7 hm=>?_) (λh7 hm=>?_)))))))
  ·refine cR 2 Q (cI hm (λ_=>[]) (λ_=>[]) [] [1,2,5] Q (λz8 hm hz8=>?_) (λj hm=>?_))
   ·refine bK 1 Q (bV follows ?_);iterate 3 (refine DA [0] TK Q ?_)
    refine VE hm λe9 he9 hm=>DX [0] Q Q (bR TK Q Q Q Q he9) (DA [0] TK Q (BE hm λr10 hr10 hm=>?_));obtain⟨r11,r12⟩:=r10;refine DX [0] Q Q (jL Q Q Q (qED hr10)) ?_;iterate 4 (refine DA [0] TK Q ?_)
    refine DT ?_ (by kernel_rfl);refine aG 9 Q (WN [1,2,5,35] Q Q (cP hm Q (λh13 hm=>?_) (λh13 hm=>?_)))
    ·cases hm
    refine cR 2 Q (cI hm (λ_=>[]) (λ_=>[]) [] [1,2,5] Q (λz14 hm hz14=>?_) (λj hm=>?_))
    ·refine bK 5 Q (bG hm Q (λh15 hm=>?_) (λh15 hm=>?_))
     ·cases hm
     exact aQ 1 Q (bU [0] hm Q Q)
    refine WN [1,2,5] Q Q (cR 5 Q (aT hm (λk17=>([(10,.d (.int .i64 k17))])) (λk17=>[]) [10] [1,2,5] [0] Q k0 Q Q Q Q Q (λk17 z18 hm hz18=>WN [1,2,5,10] Q Q (bK 7 Q (bG hm Q (λh19 hm=>?_) (λh19 hm=>?_))))))
    ·cases hm
    refine aQ 2 Q (IE hm λv20 hm hz=>?_);rw [hz18 _ hz] at hm;exact WX (bP 2 Q (bU [0] hm Q Q))
   exact WN [1,2,5] Q Q (aM 2 Q (GE hm λg21 hm=>SX Q Q (aZ Q Q Q Q g21) (aI 2 Q (bU [0] hm Q Q))))
  refine aQ 2 Q (IE hm λv22 hm hz=>?_);rw [hz6 _ hz] at hm;exact WX (bP 1 Q (bU [0] hm Q Q))
 exact WN [] Q Q (aQ 5 Q (bN hm Q))
theorem qIC {p0:Aw} {p1:Int} {r:Int} (hm:vK p0 p1=some r):RetN TP 67 [p0.enc,.int .i64 p1] (.int .i64 r):=by
 refine .unit (aN (bA Q) func67 Q ntmps67 Q Q (λwX gX=>?_)) Q;unfold vK at hm;refine WN [0,1] Q Q (aP 1 Q (cT 0 Q Q Q (aG 4 Q ?_)));refine iC [(13,.d (.bool (((decide (p1 < (0:Int)))||(decide ((p0.A0.length:Int)<=p1))))))] [13] [1,2] Q ?_ ?_
 ·refine aP 3 Q (SB TK Q (λq1 hq1=>?_));cases q1
  ·refine aH 3 Q (SX Q Q (aU TK Q Q Q) (aI 3 Q ?_));exact⟨[0],Q,k0,bX (aV (aX (by first|(simp [hq1];done)|(simp only [hq1];simp))) Q) Q⟩
  refine aI 7 Q ?_;exact⟨[0],Q,k0,bX (aV (aX (by first|(simp [hq1];done)|(simp only [hq1];simp))) Q) Q⟩
 refine WN [1,2,13] Q Q (cP hm Q (λh2 hm=>?_) (λh2 hm=>?_))
 ·cases hm
 exact aM 6 Q (VE hm λe3 he3 hm=>SX Q Q (bR TK Q Q Q Q he3) (aI 6 Q (bN hm Q)))
theorem qSM {p0:(List Int)} {p1:Int} {r:Bool} (hm:qFZ p0 p1=some r):RetN TP 206 [.sl 1 (p0.map (D.int .i64)),.int .i64 p1] (.bool (r)):=by
 refine .unit (aN (bA Q) func206 Q ntmps206 Q Q (λwX gX=>?_)) Q;unfold qFZ at hm;refine WN [0,1] Q Q (bK 4 Q (cI hm (λ_=>[]) (λ_=>[]) [] [] Q (λz1 hm hz1=>?_) (λj hm=>?_)))
 ·refine bK 5 Q (aT hm (λi3=>([(5,.d (.int .i64 i3))])) (λi3=>[]) [5] [0,1] [] Q k0 Q Q Q Q Q (λi3 z4 hm hz4=>WN [0,1,5] Q Q (aP 4 Q (SX Q Q (aU TK Q Q Q) (aG 3 Q (bG hm Q (λh5 hm=>?_) (λh5 hm=>?_)))))))
  ·cases hm
  refine aQ 2 Q (IE hm λv6 hm hz=>?_);rw [hz4 _ hz] at hm;exact WX (bP 1 Q (bU [] hm Q Q))
 exact WN [] Q Q (aQ 5 Q (bN hm Q))
theorem qH {p0:Aw} {p1:(List Ay)} {r:(List Int)} (hm:nJ p0 p1=some r):RetD TP 138 [p0.enc,.sl 3 (p1.map Ay.enc)] (.sl 1 (r.map (D.int .i64))):=by
 refine .of (mv:=λ_=>false) (aN (bA Q) func138 Q ntmps138 Q Q (λwX gX=>?_));unfold nJ at hm;refine WN [0,1] Q Q (aP 1 Q (cT 0 Q Q Q (aH 4 Q (fM (f:=(D.int .i64)) 1 3 1 Q Q Q (aG 2 Q (aL hm (λb1=>([(5,.msl 1 1 0 b1.length)])) (λb1=>([(1,.flat 3 1 (b1.map (D.int .i64)))])) [5] [] Q (λz2 hm=>?_) (λb1 hm=>?_)))))))
 ·refine bK 5 Q (aT hm (λ(i6,b7)=>([(5,.msl 1 1 0 b7.length),(6,.d (.int .i64 i6))])) (λ(i6,b7)=>([(1,.flat 3 1 (b7.map (D.int .i64)))])) [5,6] [1,2] [0,1] Q k0 Q Q Q Q Q (λs z8 hm hz8=>?_));obtain⟨i6,b7⟩:=s;refine WN [1,2,5,6] Q Q (aP 4 Q (SX Q Q (aU TK Q Q Q) (aG 3 Q (bG hm Q (λh9 hm=>?_) (λh9 hm=>?_)))))
  ·refine cR 4 Q (aL hm (λx10=>([(34,.d (.bool (x10)))])) (λx10=>[]) [34] [1,2,5,6] Q (λz11 hm=>?_) (λx10 hm=>?_))
   ·refine iW follows ?_;iterate 3 (refine DA [0,1] TK Q ?_)
    refine VE hm λe12 he12 hm=>DX [0,1] Q Q (bR TK Q Q Q Q he12) ?_;iterate 2 (refine DA [0,1] TK Q ?_)
    refine fE [0,1] hm (pJ ·) Q Q Q Q λr13 hm=>d_b [0,1] TK Q (λq14 hq14=>?_);cases q14
    ·replace hm:=JB hq14 hm;iterate 14 (refine DA [0,1] TK Q ?_)
     refine DT ?_ (by kernel_rfl);exact aI 1 Q (bM [0,1] hm Q Q)
    replace hm:=JA hq14 hm;iterate 5 (refine DA [0,1] TK Q ?_)
    refine VE hm λe15 he15 hm=>DX [0,1] Q Q (bR TK Q Q Q Q he15) ?_;iterate 2 (refine DA [0,1] TK Q ?_)
    refine VE hm λe16 he16 hm=>DX [0,1] Q Q (bR TK Q Q Q Q he16) ?_;iterate 2 (refine DA [0,1] TK Q ?_)
    refine BE hm λr17 hr17 hm=>DX [0,1] Q Q (RN Q Q (SC (dA Q) (qU Q)) (qSM hr17)) ?_;iterate 2 (refine DA [0,1] TK Q ?_)
    refine DT ?_ (by kernel_rfl);exact aI 1 Q (bM [0,1] hm Q Q)
   refine WN [1,2,5,6,34] Q Q (cP hm Q (λh18 hm=>?_) (λh18 hm=>?_))
   ·refine cU follows ?_;iterate 5 (refine DA [0,1] TK Q ?_)
    refine VE hm λe19 he19 hm=>DX [0,1] Q Q (bR TK Q Q Q Q he19) ?_;iterate 2 (refine DA [0,1] TK Q ?_)
    refine VE hm λe20 he20 hm=>DX [0,1] Q Q (bR TK Q Q Q Q he20) ?_;iterate 2 (refine DA [0,1] TK Q ?_)
    refine DX [0,1] Q Q (cM [.tmp 45] TK Q Q gR Q Q Q Q Q) ?_;refine DT ?_ (by kernel_rfl);exact GE hm λg21 hm=>cF (f:=(D.int .i64)) ([e20.A6]:List Int) TK Q Q gR Q Q Q Q Q (λh=>absurd h (zQV _)) Q bZ g21 Q Q (aH 6 Q (GE hm λg22 hm=>SX Q Q (aZ Q Q Q Q g22) (aI 2 Q (bU [0,1] hm Q Q))))
   cases hm
  refine aQ 2 Q (IE hm λv23 hm hz=>?_);rw [hz8 _ hz] at hm;exact WX (bP 1 Q (bM [0,1] hm Q Q))
 refine WN [5] Q Q (aQ 6 Q ?_);obtain rfl:=OJ hm;exact EndsS.one _ Q (dA Q) (.refl _)
theorem qPQ {p0:Aw} {p1:End} {p2:(List Ay)} {r:Bool} (hm:qDE p0 p1 p2=some r):RetN TP 230 [p0.enc,p1.enc,.sl 3 (p2.map Ay.enc)] (.bool (r)):=by
 refine .unit (aN (bA Q) func230 Q ntmps230 Q Q (λwX gX=>?_)) Q;unfold qDE at hm;refine WN [0,1,2] Q Q (aP 1 Q (cT 0 Q Q Q (cT 1 Q Q Q (aG 4 Q (aL hm (λx1=>([(40,.d (.bool (x1)))])) (λx1=>[]) [40] [2,3] Q (λz2 hm=>?_) (λx1 hm=>?_))))))
 ·refine iW follows (DA [0,1] TK Q (DX [0,1] Q Q (aU TK Q Q Q) (DA [0,1] TK Q (d_b [0,1] TK Q (λq3 hq3=>?_)))));cases q3
  ·replace hm:=JF hq3 hm;refine DA [0,1] TK Q (DX [0,1] Q Q (aU TK Q Q Q) ?_);iterate 2 (refine DA [0,1] TK Q ?_)
   refine d_b [0,1] TK Q (λq4 hq4=>?_);cases q4
   ·replace hm:=JF hq4 hm;refine DA [0,1] TK Q (VE hm λe5 he5 hm=>DX [0,1] Q Q (bR TK Q Q Q Q he5) ?_);iterate 6 (refine DA [0,1] TK Q ?_)
    refine d_b [0,1] TK Q (λq6 hq6=>?_);cases q6
    ·replace hm:=qAF hq6 hm;refine DA [0,1] TK Q (VE hm λe7 he7 hm=>DX [0,1] Q Q (bR TK Q Q Q Q he7) ?_);iterate 6 (refine DA [0,1] TK Q ?_)
     refine d_b [0,1] TK Q (λq8 hq8=>?_);cases q8
     ·replace hm:=qAF hq8 hm;iterate 2 (refine DA [0,1] TK Q ?_)
      refine fE [0,1] hm (qMZ ·) Q Q Q Q λr9 hm=>?_;iterate 2 (refine DA [0,1] TK Q ?_)
      refine DT ?_ (by kernel_rfl);exact aI 1 Q (bM [0,1] hm Q Q)
     replace hm:=qAE hq8 hm;iterate 5 (refine DA [0,1] TK Q ?_)
     refine DT ?_ (by kernel_rfl);exact aI 1 Q (bM [0,1] hm Q Q)
    replace hm:=qAE hq6 hm;iterate 14 (refine DA [0,1] TK Q ?_)
    refine DT ?_ (by kernel_rfl);exact aI 1 Q (bM [0,1] hm Q Q)
   replace hm:=JT hq4 hm;iterate 23 (refine DA [0,1] TK Q ?_)
   refine DT ?_ (by kernel_rfl);exact aI 1 Q (bM [0,1] hm Q Q)
  replace hm:=JT hq3 hm;iterate 28 (refine DA [0,1] TK Q ?_)
  refine DT ?_ (by kernel_rfl);exact aI 1 Q (bM [0,1] hm Q Q)
 refine WN [2,3,40] Q Q (cP hm Q (λh10 hm=>?_) (λh10 hm=>?_))
 ·cases hm
 refine cR 6 Q (aL hm (λchanges11=>([(7,.d (.int .i64 changes11))])) (λchanges11=>[]) [7] [2,3] Q (λz12 hm=>?_) (λchanges11 hm=>?_))
 ·refine bK 5 Q (aT hm (λ(changes15,i16)=>([(7,.d (.int .i64 changes15)),(8,.d (.int .i64 i16))])) (λ(changes15,i16)=>[]) [7,8] [2,3] [0,1] Q k0 Q Q Q Q Q (λs z17 hm hz17=>?_));obtain⟨changes15,i16⟩:=s;refine WN [2,3,7,8] Q Q (aP 4 Q (SX Q Q (aU TK Q Q Q) (aG 3 Q (bG hm Q (λh18 hm=>?_) (λh18 hm=>?_)))))
  ·cases hm
  refine aQ 2 Q (IE hm λv19 hm hz=>?_);rw [hz17 _ hz] at hm;exact WX (bP 1 Q (bM [0,1] hm Q Q))
 exact WN [2,3,7] Q Q (aM 4 Q (c_D hm (qH ·) Q Q Q Q λr20 hm=>SX Q Q (aU TK Q Q Q) (aI 5 Q (bN hm Q))))
theorem qKH {p0:Aw} {p1:End} {r:Int} (hm:xU p0 p1=some r):RetN TP 195 [p0.enc,p1.enc] (.int .i64 r):=by
 refine .unit (aN (bA Q) func195 Q ntmps195 Q Q (λwX gX=>?_)) Q;unfold xU at hm;refine WN [0,1] Q Q (aP 1 Q (cT 0 Q Q Q (cT 1 Q Q Q (aG 3 Q (cI hm (λ_=>[]) (λ_=>[]) [] [] Q (λz1 hm hz1=>?_) (λj hm=>?_))))))
 ·refine aP 3 Q (SX Q Q (aU TK Q Q Q) (aG 4 Q (aT hm (λx3=>([(10,.d (.int .i64 x3))])) (λx3=>[]) [10] [3,8,9] [0,1] Q k0 Q Q Q Q Q (λx3 z4 hm hz4=>WN [3,8,9,10] Q Q (bK 5 Q (bG hm Q (λh5 hm=>?_) (λh5 hm=>?_)))))))
  ·refine aM 6 Q (VE hm λe6 he6 hm=>SX Q Q (bR TK Q Q Q Q he6) (aH 1 Q (cD 2 Q Q sC Q (aH 8 Q (GE hm λg7 hm=>SX Q Q (qMF Q Q Q g7.1 g7.2) (aG 2 Q (bG hm Q (λh9 hm=>?_) (λh9 hm=>?_))))))))
   ·refine cR 5 Q (WN [4] Q Q (aQ 3 Q (IE hm λv10 hm hz=>?_)));rw [hz4 _ hz] at hm;refine WR (bP 1 Q (IE hm λv11 hm hz=>?_));rw [hz1 _ hz] at hm;exact WR (bN hm Q)
   exact aM 4 Q (GE hm λg12 hm=>SX Q Q (aZ Q Q Q Q g12) (aI 2 Q (bU [0,1] hm Q Q)))
  refine aQ 2 Q (IE hm λv13 hm hz=>?_);rw [hz4 _ hz] at hm;exact WX (bP 1 Q (bU [0,1] hm Q Q))
 exact WN [] Q Q (aQ 5 Q (bN hm Q))
theorem qPR {p0:Aw} {p1:Ay} {r0:Int} {r1:Bool} (hm:tG p0 p1=some (r0,r1)):Ret TP 191 [] (λ_=>false) ([p0.enc,p1.enc].map .d) (.tup ([.int .i64 r0,.bool (r1)].map .d)) []:=by
 refine jY (bA Q) func191 Q ntmps191 Q Q (λwX gX=>?_);unfold tG at hm;refine WN [0,1] Q Q (aP 1 Q (cT 0 Q Q Q (cT 1 Q Q Q (aH 10 Q (SX Q Q (cJ Q xY jK Q Q Q Q) (c_N hm (qKH ·) Q Q Q Q λr1 hm=>aH 6 Q (BE hm λr2 hr2 hm=>?_)))))));obtain⟨r3,r4⟩:=r2;refine SX Q Q (jL Q Q Q (qPU hr2)) (aH 3 Q (cD 2 Q Q jK Q (aG 4 Q (WN [6,8] Q Q ?_))));refine iC [(4,.d (.int .i64 r1)),(5,.d (.bool (((decide ((0:Int)<=r1))||(!(r4))))))] [4,5] [] Q ?_ ?_
 ·refine aP 4 Q (SB TK Q (λq5 hq5=>?_));cases q5
  ·refine aI 6 Q ?_;exact⟨[0,1,2],Q,k0,bX (aV Q (aV (aX (by first|(simp [hq5];done)|(simp only [hq5];simp))) Q)) Q⟩
  refine aI 6 Q ?_;exact⟨[0,1,2],Q,k0,bX (aV Q (aV (aX (by first|(simp [hq5];done)|(simp only [hq5];simp))) Q)) Q⟩
 refine WN [4,5] Q Q (aQ 1 Q ?_);obtain⟨rfl,rfl⟩:=Prod.mk.inj (Option.some.inj hm);exact EndsT.two Q (.d _) (.refl _) (.d _) (.refl _)
theorem qEC {p0:Aw} {p1:Ay} {r0:Int} {r1:Bool} (hm:tG p0 p1=some (r0,r1)):RetT TP 191 [p0.enc,p1.enc] [.int .i64 r0,.bool (r1)]:=.of (mv:=λ_=>false) (qPR hm)
theorem qPO {p0:Aw} {p1:Int} {p2:Int} {r:BA} (hm:qDC p0 p1 p2=some r):RetN TP 192 [p0.enc,.int .i64 p1,.int .i64 p2] (.str r):=by
 refine .unit (aN (bA Q) func192 Q ntmps192 Q Q (λwX gX=>?_)) Q;unfold qDC at hm;refine WN [0,1,2] Q Q (aP 1 Q (cT 0 Q Q Q (aG 9 Q (bG hm Q (λh1 hm=>?_) (λh1 hm=>?_)))))
 ·exact aM 4 Q (VE hm λe2 he2 hm=>SX Q Q (bR TK Q Q Q Q he2) (aH 2 Q (GE hm λg3 hm=>SX Q Q (uH Q Q Q g3) (aI 5 Q (bN hm Q)))))
 refine cR 2 Q (bV follows ?_);iterate 3 (refine DA [0] TK Q ?_)
 refine VE hm λe4 he4 hm=>DX [0] Q Q (bR TK Q Q Q Q he4) ?_;iterate 2 (refine DA [0] TK Q ?_)
 refine GE hm λg5 hm=>DX [0] Q Q (uH Q Q Q g5) ?_;iterate 3 (refine DA [0] TK Q ?_)
 refine VE hm λe6 he6 hm=>DX [0] Q Q (bR TK Q Q Q Q he6) ?_;iterate 2 (refine DA [0] TK Q ?_)
 refine GE hm λg7 hm=>DX [0] Q Q (uH Q Q Q g7) ?_;refine DT ?_ (by kernel_rfl);exact aG 3 Q (WN [6] Q Q (aQ 1 Q (bN hm Q)))
theorem wK {p0:Aw} {p1:(List Ay)} {r:(List Ag)} (hm:pK p0 p1=some r):RetD TP 137 [p0.enc,.sl 3 (p1.map Ay.enc)] (.sl 2 (r.map Ag.enc)):=by
 refine .of (mv:=λ_=>false) (aN (bA Q) func137 Q ntmps137 Q Q (λwX gX=>?_));unfold pK at hm;refine WN [0,1] Q Q (aP 1 Q (cT 0 Q Q Q (aG 7 Q (zGH 5 [some 2] Q (aL hm (λout1=>([(5,.d (.sl 2 (out1.map Ag.enc)))])) (λout1=>[]) [5] [] Q (λz2 hm=>?_) (λout1 hm=>?_))))))
 ·refine bK 5 Q (aT hm (λ(out5,i6)=>([(5,.d (.sl 2 (out5.map Ag.enc))),(6,.d (.int .i64 i6))])) (λ(out5,i6)=>[]) [5,6] [1,2] [0] Q k0 Q Q Q Q Q (λs z7 hm hz7=>?_));obtain⟨out5,i6⟩:=s;refine WN [1,2,5,6] Q Q (aP 4 Q (SX Q Q (aU TK Q Q Q) (aG 3 Q (bG hm Q (λh8 hm=>?_) (λh8 hm=>?_)))))
  ·refine cR 4 Q (bV follows ?_);iterate 3 (refine DA [0] TK Q ?_)
   refine VE hm λe9 he9 hm=>DX [0] Q Q (bR TK Q Q Q Q he9) (DA [0] TK Q (BE hm λr10 hr10 hm=>?_));obtain⟨r11,r12⟩:=r10;refine DX [0] Q Q (jL Q Q Q (qED hr10)) ?_;iterate 4 (refine DA [0] TK Q ?_)
   refine DT ?_ (by kernel_rfl);refine aG 3 Q (iC [(28,.d (.bool ((r12&&(!(decide (r11=(0:Int))))))))] [28] [1,2,5,6,7] Q ?_ ?_)
   ·refine aP 2 Q (SB TK Q (λq13 hq13=>?_));cases q13
    ·refine aI 4 Q ?_;exact⟨[0],Q,k0,bX (aV (aX (by first|(simp [hq13];done)|(simp only [hq13];simp))) Q) Q⟩
    refine aI 4 Q ?_;exact⟨[0],Q,k0,bX (aV (aX (by first|(simp [hq13];done)|(simp only [hq13];simp))) Q) Q⟩
   refine WN [1,2,5,6,7,28] Q Q (cP hm Q (λh14 hm=>?_) (λh14 hm=>?_))
   ·cases hm
   exact aM 5 Q (GE hm λg15 hm=>SX Q Q (aZ Q Q Q Q g15) (aI 2 Q (bU [0] hm Q Q)))
  refine aQ 2 Q (IE hm λv16 hm hz=>?_);rw [hz7 _ hz] at hm;exact WX (bP 1 Q (bM [0] hm Q Q))
 refine WN [5] Q Q (aQ 6 Q ?_);obtain rfl:=OJ hm;exact EndsS.one _ Q (.d _) (.refl _)
theorem zN {p0:Aw} {p1:(List Ay)} {r:Int} (hm:sF p0 p1=some r):RetN TP 133 [p0.enc,.sl 3 (p1.map Ay.enc)] (.int .i64 r):=by
 refine .unit (aN (bA Q) func133 Q ntmps133 Q Q (λwX gX=>?_)) Q;unfold sF at hm;refine WN [0,1] Q Q (aP 1 Q (cT 0 Q Q Q (aG 7 Q (aL hm (λsum1=>([(5,.d (.int .i64 sum1))])) (λsum1=>[]) [5] [] Q (λz2 hm=>?_) (λsum1 hm=>?_)))))
 ·refine bK 5 Q (aT hm (λ(sum5,i6)=>([(5,.d (.int .i64 sum5)),(6,.d (.int .i64 i6))])) (λ(sum5,i6)=>[]) [5,6] [1,2] [0] Q k0 Q Q Q Q Q (λs z7 hm hz7=>?_));obtain⟨sum5,i6⟩:=s;refine WN [1,2,5,6] Q Q (aP 4 Q (SX Q Q (aU TK Q Q Q) (aG 3 Q (bG hm Q (λh8 hm=>?_) (λh8 hm=>?_)))))
  ·refine cR 4 Q (bV follows ?_);iterate 3 (refine DA [0] TK Q ?_)
   refine VE hm λe9 he9 hm=>DX [0] Q Q (bR TK Q Q Q Q he9) ?_;iterate 2 (refine DA [0] TK Q ?_)
   refine fE [0] hm (pJ ·) Q Q Q Q λr10 hm=>?_;refine DT ?_ (by kernel_rfl);refine aG 2 Q (cP hm Q (λh11 hm=>?_) (λh11 hm=>?_))
   ·refine cU follows ?_;iterate 5 (refine DA [0] TK Q ?_)
    refine VE hm λe12 he12 hm=>DX [0] Q Q (bR TK Q Q Q Q he12) ?_;iterate 2 (refine DA [0] TK Q ?_)
    refine VE hm λe13 he13 hm=>DX [0] Q Q (bR TK Q Q Q Q he13) ?_;iterate 2 (refine DA [0] TK Q ?_)
    refine GE hm λg14 hm=>DX [0] Q Q (aZ Q Q Q Q g14) ?_;refine DT ?_ (by kernel_rfl);exact aG 4 Q (WN [1,2,5,6] Q Q (aM 2 Q (GE hm λg15 hm=>SX Q Q (aZ Q Q Q Q g15) (aI 2 Q (bU [0] hm Q Q)))))
   cases hm
  refine aQ 2 Q (IE hm λv16 hm hz=>?_);rw [hz7 _ hz] at hm;exact WX (bP 1 Q (bM [0] hm Q Q))
 exact WN [5] Q Q (aQ 6 Q (bN hm Q))
theorem zB:∀ (fu:Nat) {p0:Bf} {p1:Aw} {p2:End} {p3:End} {p4:(List Ay)} {r:Bf} (hm:lI fu p0 p1 p2 p3 p4=some r),Ret TP 190 [.box 207 [.msl 1 1 0 p0.l.length],.flat 84 1 (p0.l.map (λ(l:List Ay)=>D.sl 3 (l.map Ay.enc)))] (λj=>Nat.beq j 1) [.mptr 0 0 0 0,.d (p1.enc),.d (p2.enc),.d (p3.enc),.d (.sl 3 (p4.map Ay.enc))] (.tup []) [.box 207 [.msl 1 1 0 r.l.length],.flat 84 1 (r.l.map (λ(l:List Ay)=>D.sl 3 (l.map Ay.enc)))]:=by
 intro fu
 induction fu with
 | zero=>
  intro p0 p1 p2 p3 p4 r hm;unfold lI at hm;cases hm
 | succ fu ih=>
  intro p0 p1 p2 p3 p4 r hm;refine cA (bA Q) func190 Q ntmps190 Q Q (λwX gX=>?_);unfold lI at hm;refine WN [0,1,2,3,4] Q Q (aP 1 Q (cT 2 Q Q Q (cT 3 Q Q Q (cT 4 Q Q Q (aG 2 Q (WN [0,4,6,7,8] Q Q (aM 3 Q (c_D hm (qGA ·) Q Q Q Q λr1 hm=>aG 8 Q (aT hm (λ(i5,b6)=>([(11,.d (.int .i64 i5))])) (λ(i5,b6)=>([(0,.box 207 [.msl 1 1 0 b6.length]),(1,.flat 84 1 (b6.map (λ(l:List Ay)=>D.sl 3 (l.map Ay.enc))))])) [11] [0,4,6,7,10] [0,1,2,3] Q (kB Q) Q Q Q Q Q (λs z7 hm hz7=>?_))))))))));obtain⟨i5,b6⟩:=s;refine WN [0,4,6,7,10,11] Q Q (aP 4 Q (SX Q Q (aU TK Q Q Q) (aG 3 Q (bG hm Q (λh8 hm=>?_) (λh8 hm=>?_)))))
  ·refine aM 5 Q (fM (f:=Ay.enc) 4 177 3 Q Q Q (aG 2 Q (WN [0,4,6,7,10,11,12] Q Q (aM 3 Q (GE hm λg9 hm=>?_)))));refine cF (f:=Ay.enc) p4 TK Q Q qAV Q Q Q Q Q (λh=>absurd (show 4 < 2 from h) (by decide)) Q bZ g9 Q Q ?_;refine aG 3 Q (WN [0,4,6,7,10,11,12] Q Q (aM 4 Q (VE hm λe10 he10 hm=>SX Q Q (bR TK Q Q Q Q he10) (aH 1 Q (SX Q Q (cM [.tmp 33] TK Q Q qAV Q Q Q Q Q) (GE hm λg11 hm=>?_))))));refine cF (f:=Ay.enc) ([e10]:List Ay) TK Q Q qAV Q Q Q Q Q (λh=>absurd (show 4 < 2 from h) (by decide)) Q bZ g11 Q Q ?_;refine aG 3 Q (WN [0,4,6,7,10,11,12] Q Q (aM 5 Q (BE hm λr12 hr12 hm=>SX Q Q (RN Q Q (SC (.d _) (SC (.d _) (SC (dA Q) SN))) (qPQ hr12)) (aG 3 Q (cP hm Q (λh13 hm=>?_) (λh13 hm=>?_))))))
   ·cases hm
   refine cR 2 Q (bV follows ?_);iterate 3 (refine DA [0,1,2,3,4] TK Q ?_)
   refine VE hm λe14 he14 hm=>DX [0,1,2,3,4] Q Q (bR TK Q Q Q Q he14) (DA [0,1,2,3,4] TK Q (BE hm λr15 hr15 hm=>?_));obtain⟨r16,r17⟩:=r15;refine DX [0,1,2,3,4] Q Q (jL Q Q Q (qEC hr15)) ?_;iterate 4 (refine DA [0,1,2,3,4] TK Q ?_)
   refine DT ?_ (by kernel_rfl);refine aG 3 Q (WN [0,4,6,7,10,11,12,14] Q Q (cR 5 Q (cP hm Q (λh18 hm=>?_) (λh18 hm=>?_))))
   ·refine kM 12 4 [0,4,6,7,10,11,50] Q Q Q Q Q (by simp) Q Q ?_;exact aM 7 Q (SX Q Q (cM [.tmp 56] TK Q Q zAS Q Q Q Q Q) (GE hm λg19 hm=>cF (f:=(λ(l:List Ay)=>D.sl 3 (l.map Ay.enc))) ([((([]:List Ay)++p4)++([e10]:List Ay))]:List (List Ay)) TK Q Q zAS Q Q Q Q Q (λ_=>Q) Q bZ g19 Q Q (aG 5 Q (WN [0,4,6,7,10,11] Q Q (aM 6 Q (GE hm λg20 hm=>SX Q Q (aZ Q Q Q Q g20) (aI 2 Q (e_l [0,1,2,3] hm Q (kB Q) Q))))))))
   cases hm
  refine aQ 2 Q (IE hm λv21 hm hz=>?_);rw [hz7 _ hz] at hm;refine WX (bP 1 Q ?_);obtain rfl:=OJ hm;exact⟨_,[0,1],res Q,by decide,(kB Q),Q,Q⟩
theorem zL {p0:Bf} {p1:Aw} {p2:End} {p3:End} {p4:(List Ay)} {r:Bf} (hm:tF p0 p1 p2 p3 p4=some r):Ret TP 190 [.box 207 [.msl 1 1 0 p0.l.length],.flat 84 1 (p0.l.map (λ(l:List Ay)=>D.sl 3 (l.map Ay.enc)))] (λj=>Nat.beq j 1) [.mptr 0 0 0 0,.d (p1.enc),.d (p2.enc),.d (p3.enc),.d (.sl 3 (p4.map Ay.enc))] (.tup []) [.box 207 [.msl 1 1 0 r.l.length],.flat 84 1 (r.l.map (λ(l:List Ay)=>D.sl 3 (l.map Ay.enc)))]:=zB eR hm
theorem qPP {p0:Aw} {p1:Int} {r:(List Aj)} (hm:qDD p0 p1=some r):RetD TP 126 [p0.enc,.int .i64 p1] (.sl 14 (r.map Aj.enc)):=by
 refine .of (mv:=λ_=>false) (aN (bA Q) func126 Q ntmps126 Q Q (λwX gX=>?_));unfold qDD at hm;refine WN [0,1] Q Q (aP 1 Q (cT 0 Q Q Q (aG 4 Q ?_)));refine iC [(26,.d (.bool (((decide (p1 < (0:Int)))||(decide ((p0.Al.length:Int)<=p1))))))] [26] [1,2] Q ?_ ?_
 ·refine aP 3 Q (SB TK Q (λq1 hq1=>?_));cases q1
  ·refine aH 3 Q (SX Q Q (aU TK Q Q Q) (aI 3 Q ?_));exact⟨[0],Q,k0,bX (aV (aX (by first|(simp [hq1];done)|(simp only [hq1];simp))) Q) Q⟩
  refine aI 7 Q ?_;exact⟨[0],Q,k0,bX (aV (aX (by first|(simp [hq1];done)|(simp only [hq1];simp))) Q) Q⟩
 refine WN [1,2,26] Q Q (cP hm Q (λh2 hm=>?_) (λh2 hm=>?_))
 ·cases hm
 refine cR 2 Q (jQ (bV follows (DA [0] TK Q (DA [] TK Q (DA [0] TK Q (DA [] TK Q (VE hm λe3 he3 hm=>DX [] Q Q (bR TK Q Q Q Q he3) ?_)))))));iterate 2 (refine DA [] TK Q ?_)
 refine BE hm λr4 hr4 hm=>?_;obtain⟨r5,r6⟩:=r4;refine DX [] Q Q (jL Q Q Q (pM hr4)) ?_;iterate 3 (refine DA [] TK Q ?_)
 refine qAJ [1] _ (.mptr 1 0 0 0) Q (nC Q) Q (pA Q Q jK Q Q) (zFX 1000002 [1] [(1,.box 125 [.d (.int .i64 r5.el),.d (.int .i64 r5.side)])] (nC Q) Q (qPB TK Q Q Q Q Q Q Q Q Q Q) ?_);refine DT ?_ (by kernel_rfl);refine aG 9 Q (cP hm Q (λh7 hm=>?_) (λh7 hm=>?_))
 ·cases hm
 refine cR 2 Q (WN [1,2,5] Q Q (aM 1 Q (SX Q Q (kG Q plc207 zEA Q Q Q Q) (cT 2 Q Q Q (aG 3 Q (zHQ (f:=(λ(l:List Ay)=>D.sl 3 (l.map Ay.enc))) 2 0 3 84 1 Q Q Q (aM 5 Q (BE hm λr8 hr8 hm=>?_))))))));refine zBM [2,3] (λj=>Nat.beq j 1) Q Q Q (by decide) Q Q Q Q (zL hr8) (.cons (.refl _) (.cons (.refl _) (.cons (.refl _) (.cons (.refl _) (.cons (.nilD _) .nil))))) Q Q Q ?_;refine aH 3 Q (fM (f:=Aj.enc) 4 88 14 Q Q Q (aG 2 Q (WN [1,2,7,8] Q Q (aL hm (λb9=>([(8,.msl 4 14 0 b9.length)])) (λb9=>([(4,.flat 88 14 (b9.map Aj.enc))])) [8] [] Q (λz10 hm=>?_) (λb9 hm=>?_)))))
 ·refine bK 5 Q (aT hm (λ(i14,b15)=>([(8,.msl 4 14 0 b15.length),(9,.d (.int .i64 i14))])) (λ(i14,b15)=>([(4,.flat 88 14 (b15.map Aj.enc))])) [8,9] [1,2,7] [0,1,2,3,4] Q k0 Q Q Q Q Q (λs z16 hm hz16=>?_));obtain⟨i14,b15⟩:=s;refine WN [1,2,7,8,9] Q Q (bK 11 Q (bG hm Q (λh17 hm=>?_) (λh17 hm=>?_)))
  ·refine cR 2 Q (aL hm (λb18=>([(8,.msl 4 14 0 b18.length)])) (λb18=>([(4,.flat 88 14 (b18.map Aj.enc))])) [8] [1,2,7,9] Q (λz19 hm=>?_) (λb18 hm=>?_))
   ·refine aP 7 Q (VE hm λe20 he20 hm=>SX Q Q (sS TK Q Q Q Q he20 Q) (SX Q Q (vW TK Q Q Q Q he20.2 Q) (aG 3 Q (bV follows ?_))));iterate 3 (refine DA [0,1,2,3,4] TK Q ?_)
    refine DX [0,1,2,3,4] Q Q (aU TK Q Q Q) (GE hm λg21 hm=>DX [0,1,2,3,4] Q Q (aZ Q Q Q Q g21) (VE hm λe22 he22 hm=>DX [0,1,2,3,4] Q Q (bR TK Q Q Q Q he22) (DA [0,1,2,3,4] TK Q (BE hm λr23 hr23 hm=>?_))));obtain⟨r24,r25⟩:=r23;refine DX [0,1,2,3,4] Q Q (jL Q Q Q (qEC hr23)) ?_;iterate 4 (refine DA [0,1,2,3,4] TK Q ?_)
    refine DT ?_ (by kernel_rfl);refine aG 3 Q (WN [1,2,7,8,9,10,11] Q Q (jQ (bV follows (DA [0] TK Q ?_))));iterate 2 (refine DA [] TK Q ?_)
    refine fE [] hm (qPO ·) Q Q Q Q λr26 hm=>?_;iterate 3 (refine DA [] TK Q ?_)
    refine DA [0] TK Q (DA [] TK Q (cL [] hm (wK ·) Q Q Q Q λr27 hm=>DA [0] TK Q (DA [] TK Q (cL [] hm (qH ·) Q Q Q Q λr28 hm=>DA [0] TK Q (DA [] TK Q (fE [] hm (zN ·) Q Q Q Q λr29 hm=>DX [] Q Q (cJ Q plc88 fL Q Q Q Q) (qAJ [5] _ (.mptr 5 0 0 0) Q (nC Q) Q (pA Q Q fL Q Q) ?_)))))));refine DT ?_ (by kernel_rfl);refine aH 1 Q (bY 5 [none,none,none,none,none,none,none,none,some 3,some 2,some 1,some 2,some 1,some 2] Q Q (aG 2 Q (WN [1,2,7,8,9,11,13] Q Q (bV follows ?_))));iterate 4 (refine DA [0,1,2,3,4,5] TK Q ?_)
    refine VE hm λe30 he30 hm=>DX [0,1,2,3,4,5] Q Q (bR TK Q Q Q Q he30) ?_;iterate 3 (refine DA [0,1,2,3,4,5] TK Q ?_)
    refine fE [0,1,2,3,4,5] hm (qIC ·) Q Q Q Q λr31 hm=>DA [0,1,2,3,4,5] TK Q ?_;refine DT ?_ (by kernel_rfl);refine aG 3 Q (WN [1,2,7,8,9,11,13] Q Q (cR 4 Q (aL hm (λbefore32=>([(14,.d (.int .i64 before32))])) (λbefore32=>[]) [14] [1,2,7,8,9,13] Q (λz33 hm=>?_) (λbefore32 hm=>?_))))
    ·refine bK 5 Q (aT hm (λ(before36,k37)=>([(14,.d (.int .i64 before36)),(15,.d (.int .i64 k37))])) (λ(before36,k37)=>[]) [14,15] [1,2,7,8,9,11,13] [0,1,2,3,4,5] Q k0 Q Q Q Q Q (λs z38 hm hz38=>?_));obtain⟨before36,k37⟩:=s;refine WN [1,2,7,8,9,11,13,14,15] Q Q (bK 7 Q (bG hm Q (λh39 hm=>?_) (λh39 hm=>?_)))
     ·cases hm
     refine aQ 2 Q (IE hm λv40 hm hz=>?_);rw [hz38 _ hz] at hm;exact WX (bP 1 Q (bM [0,1,2,3,4,5] hm Q Q))
    refine WN [1,2,7,8,9,13,14] Q Q (aL hm (λ_=>[]) (λ_=>[]) [] [1,2,7,8,9,13] Q (λz41 hm=>?_) (λj hm=>?_))
    ·refine bK 5 Q (bG hm Q (λh42 hm=>?_) (λh42 hm=>?_))
     ·cases hm
     exact aQ 1 Q (bM [0,1,2,3,4,5] hm Q Q)
    exact WN [1,2,7,8,9,13] Q Q (aM 3 Q (SX Q Q (cM [.tmp 150] TK Q Q fL Q Q Q Q Q) (GE hm λg43 hm=>cF (f:=Aj.enc) ([(⟨r26,p1,r24,e20,r27,r28,r31,r29,([]:List Ay),([]:List Ag),([]:List Int),([]:List Ag),([]:List Int),([]:List End)⟩:Aj)]:List Aj) TK Q Q fL Q Q Q Q Q (λh=>absurd h (zQV _)) Q bZ g43 Q Q (aI 3 Q (bM [0,1,2,3,4] hm Q Q)))))
   exact WN [1,2,7,8,9] Q Q (aM 2 Q (GE hm λg44 hm=>SX Q Q (aZ Q Q Q Q g44) (aI 2 Q (bU [0,1,2,3,4] hm Q Q))))
  refine aQ 2 Q (IE hm λv45 hm hz=>?_);rw [hz16 _ hz] at hm;exact WX (bP 1 Q (bM [0,1,2,3,4] hm Q Q))
 refine WN [8] Q Q (aQ 6 Q ?_);obtain rfl:=OJ hm;exact EndsS.one _ Q (dA Q) (.refl _)
theorem qSL {p0:Aw} {r0:(List Aj)} {r1:Int} (hm:qFY p0=some (r0,r1)):RetT TP 63 [p0.enc] [.sl 14 (r0.map Aj.enc),.int .i64 r1]:=by
 refine .of (mv:=λ_=>false) (jY (bA Q) func63 Q ntmps63 Q Q (λwX gX=>?_));unfold qFY at hm;refine WN [0] Q Q (aP 1 Q (cT 0 Q Q Q (aH 6 Q (c_N hm (qND ·) Q Q Q Q λr1 hm=>aG 9 Q (qD hm Q (λh2 hm=>?_) (λh2 hm=>?_))))))
 ·cases hm
 refine aM 3 Q (fM (f:=Aj.enc) 1 88 14 Q Q Q (aG 2 Q (aL hm (λb3=>([(5,.msl 1 14 0 b3.length)])) (λb3=>([(1,.flat 88 14 (b3.map Aj.enc))])) [5] [] Q (λz4 hm=>?_) (λb3 hm=>?_))))
 ·refine bK 5 Q (aT hm (λ(i8,b9)=>([(5,.msl 1 14 0 b9.length),(6,.d (.int .i64 i8))])) (λ(i8,b9)=>([(1,.flat 88 14 (b9.map Aj.enc))])) [5,6] [1] [0,1] Q k0 Q Q Q Q Q (λs z10 hm hz10=>?_));obtain⟨i8,b9⟩:=s;refine WN [1,5,6] Q Q (aP 5 Q (SX Q Q (aU TK Q Q Q) (aG 3 Q (bG hm Q (λh11 hm=>?_) (λh11 hm=>?_)))))
  ·exact aM 8 Q (c_D hm (qPP ·) Q Q Q Q λr12 hm=>GE hm λg13 hm=>cF (f:=Aj.enc) r12 TK Q Q fL Q Q Q Q Q (λh=>absurd h (zQV _)) Q bZ g13 Q Q (aH 6 Q (GE hm λg14 hm=>SX Q Q (aZ Q Q Q Q g14) (aI 2 Q (bU [0,1] hm Q Q)))))
  refine aQ 2 Q (IE hm λv15 hm hz=>?_);rw [hz10 _ hz] at hm;exact WX (bP 1 Q (bM [0,1] hm Q Q))
 refine WN [5] Q Q (cR 7 Q (bG hm Q (λh16 hm=>?_) (λh16 hm=>?_)))
 ·cases hm
 refine aQ 9 Q ?_;obtain⟨rfl,rfl⟩:=Prod.mk.inj (Option.some.inj hm);exact EndsT.two Q (dA Q) (.refl _) (.d _) (.refl _)
theorem qKI {p0:Aw} {r:(List Int)} (hm:xV p0=some r):RetD TP 64 [p0.enc] (.sl 1 (r.map (D.int .i64))):=by
 refine .of (mv:=λ_=>false) (aN (bA Q) func64 Q ntmps64 Q Q (λwX gX=>?_));unfold xV at hm;refine WN [0] Q Q (aP 1 Q (cT 0 Q Q Q (aH 4 Q (fM (f:=(D.int .i64)) 1 3 1 Q Q Q (aG 2 Q (aL hm (λ_=>([(3,.msl 1 1 0 ([]:List Int).length)])) (λ_=>[]) [3] [] Q (λz1 hm=>?_) (λj hm=>?_)))))))
 ·refine aP 3 Q (SX Q Q (aU TK Q Q Q) (aG 4 Q (aT hm (λx3=>([(3,.msl 1 1 0 ([]:List Int).length),(9,.d (.int .i64 x3))])) (λx3=>[]) [3,9] [7,8] [0,1] Q k0 Q Q Q Q Q (λx3 z4 hm hz4=>WN [3,7,8,9] Q Q (bK 5 Q (bG hm Q (λh5 hm=>?_) (λh5 hm=>?_)))))))
  ·refine aM 6 Q (VE hm λe6 he6 hm=>SX Q Q (bR TK Q Q Q Q he6) (aH 1 Q (cD 2 Q Q xF Q (aG 10 Q (bG hm Q (λh7 hm=>?_) (λh7 hm=>?_))))))
   ·cases hm
   exact aM 4 Q (GE hm λg8 hm=>SX Q Q (aZ Q Q Q Q g8) (aI 2 Q (bU [0,1] hm Q Q)))
  refine aQ 2 Q (IE hm λv9 hm hz=>?_);rw [hz4 _ hz] at hm;exact WX (bP 1 Q (bM [0,1] hm Q Q))
 refine WN [3] Q Q (aQ 6 Q ?_);obtain rfl:=OJ hm;exact EndsS.one _ Q (dA Q) (.refl _)
theorem qPM {p0:Aw} {p1:Aj} {r0:A8} {r1:Bool} (hm:qDA p0 p1=some (r0,r1)):Ret TP 131 [] (λ_=>false) ([p0.enc,p1.enc].map .d) (.tup ([r0.enc,.bool (r1)].map .d)) []:=by
 refine jY (bA Q) func131 Q ntmps131 Q Q (λwX gX=>?_);unfold qDA at hm;refine WN [0,1] Q Q (aP 1 Q (cT 0 Q Q Q (cT 1 Q Q Q (cD 2 Q Q sC Q (aG 4 Q ?_)))));refine iC [(16,.d (.bool (((decide (p1.exit < (0:Int)))||(decide ((p0.Al.length:Int)<=p1.exit))))))] [16] [2,3,4] Q ?_ ?_
 ·refine aP 4 Q (SB TK Q (λq1 hq1=>?_));cases q1
  ·refine aH 4 Q (SX Q Q (aU TK Q Q Q) (aI 3 Q ?_));exact⟨[0,1,2],Q,k0,bX (aV (aX (by first|(simp [hq1];done)|(simp only [hq1];simp))) Q) Q⟩
  refine aI 8 Q ?_;exact⟨[0,1,2],Q,k0,bX (aV (aX (by first|(simp [hq1];done)|(simp only [hq1];simp))) Q) Q⟩
 refine WN [2,3,4,16] Q Q (cP hm Q (λh2 hm=>?_) (λh2 hm=>?_))
 ·refine aM 1 Q (SX Q Q (cJ Q qVV sC Q Q Q Q) (aI 6 Q ?_));obtain⟨rfl,rfl⟩:=Prod.mk.inj (Option.some.inj hm);exact⟨_,.mk _ (.cons (.agg (TK.lay Q) Q Q Q Q) (.cons (.tmp 5) .nil)) Q,(.cons (.d _) (.refl _) (.cons (.d _) (.refl _) .nil))⟩
 refine aM 7 Q (VE hm λe3 he3 hm=>SX Q Q (bR TK Q Q Q Q he3) (aI 6 Q ?_));obtain⟨rfl,rfl⟩:=Prod.mk.inj (Option.some.inj hm);exact⟨_,.mk _ (.cons (.agg (TK.lay Q) Q Q Q Q) (.cons (.tmp 5) .nil)) Q,(.cons (.d _) (.refl _) (.cons (.d _) (.refl _) .nil))⟩
theorem qHY {p0:Aw} {p1:Aj} {p2:(List Ay)} {p3:Int} {r:Bool} (hm:vF p0 p1 p2 p3=some r):RetN TP 134 [p0.enc,p1.enc,.sl 3 (p2.map Ay.enc),.int .i64 p3] (.bool (r)):=by
 refine .unit (aN (bA Q) func134 Q ntmps134 Q Q (λwX gX=>?_)) Q;unfold vF at hm;refine WN [0,1,2,3] Q Q (aP 1 Q (cT 0 Q Q Q (cT 1 Q Q Q (aH 6 Q (SX Q Q (aU TK Q Q Q) (aG 4 Q (aT hm (λx2=>([(15,.d (.int .i64 x2))])) (λx2=>[]) [15] [3,4,5,13,14] [0,1] Q k0 Q Q Q Q Q (λx2 z3 hm hz3=>WN [3,4,5,13,14,15] Q Q (bK 5 Q (bG hm Q (λh4 hm=>?_) (λh4 hm=>?_)))))))))))
 ·cases hm
 cases hm
theorem qPN {p0:Aw} {p1:Aj} {r:Aj} (hm:qDB p0 p1=some r):RetD TP 66 [p0.enc,p1.enc] (r.enc):=by
 refine .of (mv:=λ_=>false) (aN (bA Q) func66 Q ntmps66 Q Q (λwX gX=>?_));unfold qDB at hm;refine WN [0,1] Q Q (aP 1 Q (cT 0 Q Q Q (cT 1 Q Q Q (cD 2 Q Q fL Q (iF (f:=Ay.enc) 2 8 3 177 3 Q Q Q (bY 2 [none,none,none,some 3,some 2,some 1,none,none,none,some 2,some 1,some 2,some 1,some 2] Q Q (aH 5 Q (iF (f:=Ay.enc) 1 8 4 177 3 Q Q Q (aG 2 Q (WN [2,3,4] Q Q (aM 3 Q (bY 1 [none,none,none,none,none,none,none,none,none,some 2,none,none,none,none] Q Q (aG 2 Q ?_)))))))))))));refine WN [2,3,4] Q Q (aM 3 Q (bY 1 [none,none,none,none,none,none,none,none,none,none,some 1,none,none,none] Q Q (aG 2 Q (WN [2,3,4] Q Q (aM 3 Q (BE hm λr1 hr1 hm=>?_))))));obtain⟨r2,r3⟩:=r1;refine SX Q Q (qZL Q Q (SC (.d _) (SC (jS (.cons (.d _) Q (.cons (.d _) Q (.cons (.d _) Q (.cons (.d _) Q (.cons (.d _) Q (.cons (.d _) Q (.cons (.d _) Q (.cons (.d _) Q (.cons (dA Q) Q (.cons (.d _) Q (.cons (.d _) Q (.cons (.d _) Q (.cons (.d _) Q (.cons (.d _) Q .nil))))))))))))))) SN)) (qPM hr1) Q) (aH 3 Q (cD 5 Q Q sC Q (aG 4 Q (WN [2,3,4,5,6] Q Q (cR 6 Q (cP hm Q (λh4 hm=>?_) (λh4 hm=>?_)))))))
 ·refine cR 5 Q (WN [4] Q Q (aQ 2 Q ?_));obtain rfl:=OJ hm;exact EndsS.cellR _ TK Q Q Q Q Q (jS (.cons (.d _) Q (.cons (.d _) Q (.cons (.d _) Q (.cons (.d _) Q (.cons (.d _) Q (.cons (.d _) Q (.cons (.d _) Q (.cons (.d _) Q (.cons (dA Q) Q (.cons (.d _) Q (.cons (.d _) Q (.cons (.d _) Q (.cons (.d _) Q (.cons (.d _) Q .nil)))))))))))))))
 refine aM 6 Q (BE hm λr5 hr5 hm=>?_);obtain⟨r6,r7⟩:=r5;refine SX Q Q (jL Q Q Q (pM hr5)) (aH 3 Q (cD 6 Q Q jK Q (aG 4 Q (WN [2,3,4,5,7,8] Q Q (aL hm (λ_=>[]) (λ_=>[]) [] [2,3,4] Q (λz8 hm=>?_) (λj hm=>?_))))))
 ·refine bK 1 Q (aT hm (λjoined10=>([(8,.d (.bool (joined10)))])) (λjoined10=>[]) [8] [2,3,4,5,7] [0,1,2,3,4,5,6] Q k0 Q Q Q Q Q (λjoined10 z11 hm hz11=>WN [2,3,4,5,7,8] Q Q (bK 1 Q (aL hm (λx12=>([(54,.d (.bool (x12)))])) (λx12=>[]) [54] [2,3,4,5,7] Q (λz13 hm=>?_) (λx12 hm=>?_)))))
  ·refine iW follows (DA [0,1,2,3,4,5,6] TK Q (d_b [0,1,2,3,4,5,6] TK Q (λq14 hq14=>?_)));cases q14
   ·replace hm:=JB hq14 hm;iterate 24 (refine DA [0,1,2,3,4,5,6] TK Q ?_)
    refine DT ?_ (by kernel_rfl);exact aI 1 Q (bM [0,1,2,3,4,5,6] hm Q Q)
   replace hm:=JA hq14 hm;iterate 3 (refine DA [0,1,2,3,4,5,6] TK Q ?_)
   refine BE hm λr15 hr15 hm=>DX [0,1,2,3,4,5,6] Q Q (RN Q Q (SC (.d _) (SC (dA Q) SN)) (zN hr15)) ?_;iterate 4 (refine DA [0,1,2,3,4,5,6] TK Q ?_)
   refine d_b [0,1,2,3,4,5,6] TK Q (λq16 hq16=>?_);cases q16
   ·replace hm:=JF hq16 hm;iterate 15 (refine DA [0,1,2,3,4,5,6] TK Q ?_)
    refine DT ?_ (by kernel_rfl);exact aI 1 Q (bM [0,1,2,3,4,5,6] hm Q Q)
   replace hm:=JT hq16 hm;iterate 5 (refine DA [0,1,2,3,4,5,6] TK Q ?_)
   refine d_b [0,1,2,3,4,5,6] TK Q (λq17 hq17=>?_);cases q17
   ·replace hm:=JF hq17 hm;iterate 9 (refine DA [0,1,2,3,4,5,6] TK Q ?_)
    refine DT ?_ (by kernel_rfl);exact aI 1 Q (bM [0,1,2,3,4,5,6] hm Q Q)
   replace hm:=JT hq17 hm;iterate 6 (refine DA [0,1,2,3,4,5,6] TK Q ?_)
   refine BE hm λr18 hr18 hm=>DX [0,1,2,3,4,5,6] Q Q (RN Q Q (SC (.d _) (SC (jS (.cons (.d _) Q (.cons (.d _) Q (.cons (.d _) Q (.cons (.d _) Q (.cons (.d _) Q (.cons (.d _) Q (.cons (.d _) Q (.cons (.d _) Q (.cons (dA Q) Q (.cons (.d _) Q (.cons (.d _) Q (.cons (.d _) Q (.cons (.d _) Q (.cons (.d _) Q .nil))))))))))))))) (SC (dA Q) (qU Q)))) (qHY hr18)) ?_;iterate 2 (refine DA [0,1,2,3,4,5,6] TK Q ?_)
   refine DT ?_ (by kernel_rfl);exact aI 1 Q (bM [0,1,2,3,4,5,6] hm Q Q)
  refine WN [2,3,4,5,7,54] Q Q (cP hm Q (λh19 hm=>?_) (λh19 hm=>?_))
  ·cases hm
  refine aQ 2 Q (IE hm λv20 hm hz=>?_);rw [hz11 _ hz] at hm;exact WX (bP 1 Q (bM [0,1,2,3,4,5,6] hm Q Q))
 refine WN [2,3,4] Q Q ?_;refine c_frzC 1 8 4 [2,3,4] Q Q Q Q Q Q (by simp) Q Q Q ?_;refine aM 4 Q (c_D hm (wK ·) Q Q Q Q λr21 hm=>aG 4 Q (WN [2,3,4] Q Q (aM 4 Q (c_D hm (qH ·) Q Q Q Q λr22 hm=>aG 4 Q (WN [3,4] Q Q (cR 5 Q (WN [4] Q Q (aQ 1 Q ?_))))))));obtain rfl:=OJ hm;exact EndsS.cellR _ TK Q Q Q Q Q (.d _)
theorem qKG {p0:Aw} {p1:Ay} {r:(List End)} (hm:xR p0 p1=some r):RetD TP 194 [p0.enc,p1.enc] (.sl 2 (r.map End.enc)):=by
 refine .of (mv:=λ_=>false) (aN (bA Q) func194 Q ntmps194 Q Q (λwX gX=>?_));unfold xR at hm;refine WN [0,1] Q Q (aP 1 Q (cT 0 Q Q Q (cT 1 Q Q Q (aG 4 Q ?_))));refine iC [(20,.d (.bool (((decide (p1.el < (0:Int)))||(decide ((p0.A0.length:Int)<=p1.el))))))] [20] [2,3] Q ?_ ?_
 ·refine aP 4 Q (SB TK Q (λq1 hq1=>?_));cases q1
  ·refine aH 4 Q (SX Q Q (aU TK Q Q Q) (aI 3 Q ?_));exact⟨[0,1],Q,k0,bX (aV (aX (by first|(simp [hq1];done)|(simp only [hq1];simp))) Q) Q⟩
  refine aI 8 Q ?_;exact⟨[0,1],Q,k0,bX (aV (aX (by first|(simp [hq1];done)|(simp only [hq1];simp))) Q) Q⟩
 refine WN [2,3,20] Q Q (cP hm Q (λh2 hm=>?_) (λh2 hm=>?_))
 ·cases hm
 refine aM 7 Q (VE hm λe3 he3 hm=>SX Q Q (bR TK Q Q Q Q he3) (aH 11 Q (BE hm λr4 hr4 hm=>?_)));obtain⟨r5,r6⟩:=r4;refine SX Q Q (jL Q Q Q (xW hr4)) (aG 7 Q (WN [3,5,7] Q Q (aM 1 Q (fM (f:=End.enc) 2 125 2 Q Q Q (aG 2 Q (aL hm (λ_=>([(8,.msl 2 2 0 ([]:List End).length)])) (λ_=>[]) [8] [] Q (λz7 hm=>?_) (λj hm=>?_)))))))
 ·refine bK 5 Q (aT hm (λside9=>([(8,.msl 2 2 0 ([]:List End).length),(9,.d (.int .i64 side9))])) (λside9=>[]) [8,9] [3,5,7] [0,1,2] Q k0 Q Q Q Q Q (λside9 z10 hm hz10=>WN [3,5,7,8,9] Q Q (aP 4 Q (c_N hm (qCG ·) Q Q Q Q λr11 hm=>aG 3 Q (bG hm Q (λh12 hm=>?_) (λh12 hm=>?_))))))
  ·refine cR 4 Q (iC [(55,.d (.bool ((r6&&((!(decide (side9=p1.inV)))&&(!(decide (side9=p1.out))))))))] [55] [3,5,7,8,9] Q ?_ ?_)
   ·refine aP 2 Q (SB TK Q (λq13 hq13=>?_));cases q13
    ·refine aI 12 Q ?_;exact⟨[0,1,2],Q,k0,bX (aV (aX (by first|(simp [hq13];done)|(simp only [hq13];simp))) Q) Q⟩
    refine aH 5 Q (SB TK Q (λq14 hq14=>?_));cases q14
    ·refine aI 6 Q ?_;exact⟨[0,1,2],Q,k0,bX (aV (aX (by first|(simp [hq13,hq14];done)|(simp only [hq13,hq14];simp))) Q) Q⟩
    refine aI 6 Q ?_;exact⟨[0,1,2],Q,k0,bX (aV (aX (by first|(simp [hq13,hq14];done)|(simp only [hq13,hq14];simp))) Q) Q⟩
   refine WN [3,5,7,8,9,55] Q Q (cP hm Q (λh15 hm=>?_) (λh15 hm=>?_))
   ·cases hm
   exact aM 5 Q (GE hm λg16 hm=>SX Q Q (aZ Q Q Q Q g16) (aI 2 Q (bU [0,1,2] hm Q Q)))
  refine aQ 2 Q (IE hm λv17 hm hz=>?_);rw [hz10 _ hz] at hm;exact WX (bP 1 Q (bM [0,1,2] hm Q Q))
 refine WN [8] Q Q (aQ 6 Q ?_);obtain rfl:=OJ hm;exact EndsS.one _ Q (dA Q) (.refl _)
theorem qMY {p0:Aw} {p1:Aj} {r:(List End)} (hm:zK p0 p1=some r):RetD TP 127 [p0.enc,p1.enc] (.sl 2 (r.map End.enc)):=by
 refine .of (mv:=λ_=>false) (aN (bA Q) func127 Q ntmps127 Q Q (λwX gX=>?_));unfold zK at hm;refine WN [0,1] Q Q (aP 1 Q (cT 0 Q Q Q (cT 1 Q Q Q (aH 4 Q (fM (f:=End.enc) 2 125 2 Q Q Q (aG 2 Q (aL hm (λb1=>([(5,.msl 2 2 0 b1.length)])) (λb1=>([(2,.flat 125 2 (b1.map End.enc))])) [5] [2,3] Q (λz2 hm=>?_) (λb1 hm=>?_))))))))
 ·refine bK 5 Q (aT hm (λ(i6,b7)=>([(5,.msl 2 2 0 b7.length),(6,.d (.int .i64 i6))])) (λ(i6,b7)=>([(2,.flat 125 2 (b7.map End.enc))])) [5,6] [2,3] [0,1,2] Q k0 Q Q Q Q Q (λs z8 hm hz8=>?_));obtain⟨i6,b7⟩:=s;refine WN [2,3,5,6] Q Q (aP 5 Q (SX Q Q (aU TK Q Q Q) (aG 3 Q (bG hm Q (λh9 hm=>?_) (λh9 hm=>?_)))))
  ·refine cR 4 Q (cU follows ?_);iterate 5 (refine DA [0,1,2] TK Q ?_)
   refine VE hm λe10 he10 hm=>DX [0,1,2] Q Q (bR TK Q Q Q Q he10) (DA [0,1,2] TK Q (cL [0,1,2] hm (qKG ·) Q Q Q Q λr11 hm=>?_));refine DT ?_ (by kernel_rfl);exact GE hm λg12 hm=>cF (f:=End.enc) r11 TK Q Q jK Q Q Q Q Q (λh=>absurd h (zQV _)) Q bZ g12 Q Q (aH 6 Q (GE hm λg13 hm=>SX Q Q (aZ Q Q Q Q g13) (aI 2 Q (bU [0,1,2] hm Q Q))))
  refine aQ 2 Q (IE hm λv14 hm hz=>?_);rw [hz8 _ hz] at hm;exact WX (bP 1 Q (bM [0,1,2] hm Q Q))
 refine WN [2,3,5] Q Q (aL hm (λ_=>([(5,.msl 2 2 0 b1.length)])) (λ_=>[]) [5] [] Q (λz15 hm=>?_) (λj hm=>?_))
 ·refine bK 5 Q (aT hm (λi17=>([(5,.msl 2 2 0 b1.length),(7,.d (.int .i64 i17))])) (λi17=>[]) [5,7] [2,3] [0,1,2] Q k0 Q Q Q Q Q (λi17 z18 hm hz18=>WN [2,3,5,7] Q Q (aP 5 Q (SX Q Q (aU TK Q Q Q) (aG 3 Q (bG hm Q (λh19 hm=>?_) (λh19 hm=>?_)))))))
  ·cases hm
  refine aQ 2 Q (IE hm λv20 hm hz=>?_);rw [hz18 _ hz] at hm;exact WX (bP 1 Q (bM [0,1,2] hm Q Q))
 refine WN [5] Q Q (aQ 6 Q ?_);obtain rfl:=OJ hm;exact EndsS.one _ Q (dA Q) (.refl _)
theorem qSN {p0:(List Int)} {p1:Int} {r:Bool} (hm:wL p0 p1=some r):RetN TP 77 [.sl 1 (p0.map (D.int .i64)),.int .i64 p1] (.bool (r)):=by
 refine .unit (aN (bA Q) func77 Q ntmps77 Q Q (λwX gX=>?_)) Q;unfold wL at hm;refine WN [0,1] Q Q (bK 4 Q (cI hm (λ_=>[]) (λ_=>[]) [] [] Q (λz1 hm hz1=>?_) (λj hm=>?_)))
 ·refine bK 5 Q (aT hm (λi3=>([(5,.d (.int .i64 i3))])) (λi3=>[]) [5] [0,1] [] Q k0 Q Q Q Q Q (λi3 z4 hm hz4=>WN [0,1,5] Q Q (aP 4 Q (SX Q Q (aU TK Q Q Q) (aG 3 Q (bG hm Q (λh5 hm=>?_) (λh5 hm=>?_)))))))
  ·refine aM 7 Q (VE hm λe6 he6 hm=>SX Q Q (bR TK Q Q Q Q he6) (aG 5 Q (bG hm Q (λh7 hm=>?_) (λh7 hm=>?_))))
   ·refine aQ 7 Q (IE hm λv8 hm hz=>?_);rw [hz4 _ hz] at hm;refine WR (bP 1 Q (IE hm λv9 hm hz=>?_));rw [hz1 _ hz] at hm;exact WR (bN hm Q)
   exact aM 5 Q (GE hm λg10 hm=>SX Q Q (aZ Q Q Q Q g10) (aI 2 Q (bU [] hm Q Q)))
  refine aQ 2 Q (IE hm λv11 hm hz=>?_);rw [hz4 _ hz] at hm;exact WX (bP 1 Q (bU [] hm Q Q))
 exact WN [] Q Q (aQ 5 Q (bN hm Q))
theorem qPL {p0:Aw} {p1:Aj} {r:Aj} (hm:qCZ p0 p1=some r):RetD TP 65 [p0.enc,p1.enc] (r.enc):=by
 refine .of (mv:=λ_=>false) (aN (bA Q) func65 Q ntmps65 Q Q (λwX gX=>?_));unfold qCZ at hm;refine WN [0,1] Q Q (aP 1 Q (cT 0 Q Q Q (cT 1 Q Q Q (cD 2 Q Q fL Q (iF (f:=End.enc) 2 13 3 125 2 Q Q Q (bY 2 [none,none,none,some 3,some 2,some 1,none,none,some 3,some 2,some 1,some 2,some 1,none] Q Q (aH 5 Q (bY 1 [none,none,none,none,none,none,none,none,none,none,none,some 2,none,none] Q Q (aH 5 Q (bY 1 [none,none,none,none,none,none,none,none,none,none,none,none,some 1,none] Q Q (aH 5 Q (iF (f:=End.enc) 1 13 4 125 2 Q Q Q (aG 2 Q ?_)))))))))))));refine WN [2,3,4] Q Q (aM 3 Q (s_aggE 14 Q Q (c_D hm (qMY ·) Q Q Q Q λr1 hm=>aG 3 Q (aL hm (λ_=>[]) (λ_=>[]) [] [3,4] Q (λz2 hm=>?_) (λj hm=>?_)))))
 ·refine bK 5 Q (aT hm (λi4=>([(6,.d (.int .i64 i4))])) (λi4=>[]) [6] [2,3,4,5] [0,1,2,3,4] Q k0 Q Q Q Q Q (λi4 z5 hm hz5=>WN [2,3,4,5,6] Q Q (aP 4 Q (SX Q Q (aU TK Q Q Q) (aG 3 Q (bG hm Q (λh6 hm=>?_) (λh6 hm=>?_)))))))
  ·cases hm
  refine aQ 2 Q (IE hm λv7 hm hz=>?_);rw [hz5 _ hz] at hm;exact WX (bP 1 Q (bM [0,1,2,3,4] hm Q Q))
 refine WN [3,4] Q Q (cR 5 Q (WN [4] Q Q (aQ 1 Q ?_)));obtain rfl:=OJ hm;exact EndsS.cellR _ TK Q Q Q Q Q (jS (.cons (.d _) Q (.cons (.d _) Q (.cons (.d _) Q (.cons (.d _) Q (.cons (.d _) Q (.cons (.d _) Q (.cons (.d _) Q (.cons (.d _) Q (.cons (.d _) Q (.cons (.d _) Q (.cons (.d _) Q (.cons (.d _) Q (.cons (.d _) Q (.cons (dA Q) Q .nil)))))))))))))))
theorem qMX {p0:Aw} {r0:Am} {r1:Int} (hm:zJ p0=some (r0,r1)):RetT TP 26 [p0.enc] [r0.enc,.int .i64 r1]:=by
 refine .of (mv:=λ_=>false) (jY (bA Q) func26 Q ntmps26 Q Q (λwX gX=>?_));unfold zJ at hm;refine WN [0] Q Q (aP 1 Q (cT 0 Q Q Q (cD 1 Q Q qOW Q (iF (f:=Aj.enc) 1 0 2 88 14 Q Q Q (iF (f:=(D.int .i64)) 1 2 3 3 1 Q Q Q (bY 1 [none,some 1,none,none,none] Q Q (aH 5 Q (BE hm λr1 hr1 hm=>?_))))))));obtain⟨r2,r3⟩:=r1;refine SX Q Q (jL Q Q Q (qSL hr1)) (aG 13 Q (qD hm Q (λh4 hm=>?_) (λh4 hm=>?_)))
 ·cases hm
 refine cR 2 Q (jQ (bV follows (DA [0] TK Q (cL [] hm (qKI ·) Q Q Q Q λr5 hm=>DA [] TK Q (DA [0] TK Q (DX [] Q Q (aU TK Q Q Q) (DA [] TK Q (DA [0] TK Q (DX [] Q Q (aU TK Q Q Q) (DX [] Q Q (kG Q plc25 qOW Q Q Q Q) (qAJ [4] _ (.mptr 4 0 0 0) Q (nC Q) Q (pA Q Q qOW Q Q) ?_)))))))))));refine DT ?_ (by kernel_rfl);refine aH 1 Q (iF (f:=Aj.enc) 4 0 5 88 14 Q Q Q (iF (f:=(D.int .i64)) 4 2 6 3 1 Q Q Q (aG 2 Q (WN [1,2,4,6] Q Q (aL hm (λb6=>[]) (λb6=>([(4,.box 25 [.msl 5 14 0 b6.length,.d (.sl 1 (r5.map (D.int .i64))),.msl 6 1 0 ([]:List Int).length,.d (.int .i64 (p0.Aa.length:Int)),.d (.int .i64 (p0.Al.length:Int))]),(5,.flat 88 14 (b6.map Aj.enc))])) [] [1,2,6] Q (λz7 hm=>?_) (λb6 hm=>?_))))))
 ·refine aP 2 Q (SX Q Q (aU TK Q Q Q) (aG 4 Q (aT hm (λ(x11,b12)=>([(31,.d (.int .i64 x11))])) (λ(x11,b12)=>([(4,.box 25 [.msl 5 14 0 b12.length,.d (.sl 1 (r5.map (D.int .i64))),.msl 6 1 0 ([]:List Int).length,.d (.int .i64 (p0.Aa.length:Int)),.d (.int .i64 (p0.Al.length:Int))]),(5,.flat 88 14 (b12.map Aj.enc))])) [31] [1,2,6,29,30] [0,1,2,3,4,5,6] Q k0 Q Q Q Q Q (λs z13 hm hz13=>?_))));obtain⟨x11,b12⟩:=s;refine WN [1,2,6,29,30,31] Q Q (bK 5 Q (bG hm Q (λh14 hm=>?_) (λh14 hm=>?_)))
  ·refine aM 5 Q (VE hm λe15 he15 hm=>SX Q Q (bR TK Q Q Q Q he15) (aH 1 Q (cD 7 Q Q fL Q (bY 7 [none,none,none,some 3,some 2,some 1,none,none,some 3,some 2,some 1,some 2,some 1,some 2] Q Q (aG 3 Q (WN [1,2,6,8,29,30,31] Q Q (jQ (cU follows (DA [] TK Q (DA [4] TK Q ?_))))))))));iterate 2 (refine DA [0] TK Q ?_)
   refine DA [7] TK Q (cL [] hm (qPN ·) Q Q Q Q λr16 hm=>cL [] hm (qPL ·) Q Q Q Q λr17 hm=>DX [] Q Q (cM [.tmp 41] TK Q Q fL Q Q Q Q Q) (GE hm λg18 hm=>qAJ [5,8] _ (.msl 8 14 0 (b12++([r17]:List Aj)).length) Q (nC Q) Q (qPC (f:=Aj.enc) (xs:=b12) ([r17]:List Aj) Q Q Q TK Q fL Q Q Q Q Q Q bZ g18) (DA [] TK Q ?_)));refine DT ?_ (by kernel_rfl);exact aG 4 Q (WN [1,2,6,29,30,31] Q Q (aM 1 Q (GE hm λg19 hm=>SX Q Q (aZ Q Q Q Q g19) (aI 2 Q (bU [0,1,2,3,4,8,6] hm Q Q)))))
  refine aQ 2 Q (IE hm λv20 hm hz=>?_);rw [hz13 _ hz] at hm;exact WX (bP 1 Q (bM [0,1,2,3,4,5,6] hm Q Q))
 refine WN [1,2,6] Q Q (aL hm (λ_=>[]) (λ_=>[]) [] [2,6] Q (λz21 hm=>?_) (λj hm=>?_))
 ·refine aP 3 Q (SX Q Q (aU TK Q Q Q) (aG 4 Q (aT hm (λx23=>([(49,.d (.int .i64 x23))])) (λx23=>[]) [49] [1,2,6,47,48] [0,1,2,3,4,5,6] Q k0 Q Q Q Q Q (λx23 z24 hm hz24=>WN [1,2,6,47,48,49] Q Q (bK 5 Q (bG hm Q (λh25 hm=>?_) (λh25 hm=>?_)))))))
  ·cases hm
  refine aQ 2 Q (IE hm λv26 hm hz=>?_);rw [hz24 _ hz] at hm;exact WX (bP 1 Q (bM [0,1,2,3,4,5,6] hm Q Q))
 refine WN [2,6] Q Q (cR 6 Q (WN [2,3] Q Q (aQ 1 Q ?_)));obtain⟨rfl,rfl⟩:=Prod.mk.inj (Option.some.inj hm);exact⟨_,.mk _ (.cons (.agg (TK.lay Q) Q Q Q Q) (.cons (.tmp 3) .nil)) Q,(.cons (jS (.cons (dA Q) Q (.cons (.d _) Q (.cons (dA Q) Q (.cons (.d _) Q (.cons (.d _) Q .nil)))))) (.refl _) (.cons (.d _) (.refl _) .nil))⟩
theorem jR {p0:Int} {p1:Int} {r:Bool} (hm:fH p0 p1=some r):RetN TP 208 [.int .i64 p0,.int .i64 p1] (.bool (r)):=by
 refine .unit (aN (bA Q) func208 Q ntmps208 Q Q (λwX gX=>?_)) Q;unfold fH at hm;refine WN [0,1] Q Q (bK 4 Q (iC [(4,.d (.bool (((decide ((0:Int)<=p0))&&(decide (p0 < p1))))))] [4] [] Q ?_ ?_))
 ·refine aP 3 Q (SB TK Q (λq1 hq1=>?_));cases q1
  ·refine aI 6 Q ?_;exact⟨[],Q,k0,bX (aV (aX (by first|(simp [hq1];done)|(simp only [hq1];simp))) Q) Q⟩
  refine aI 6 Q ?_;exact⟨[],Q,k0,bX (aV (aX (by first|(simp [hq1];done)|(simp only [hq1];simp))) Q) Q⟩
 exact WN [4] Q Q (aQ 1 Q (bN hm Q))
theorem qBX {p0:Am} {r:Bool} (hm:lE p0=some r):RetN TP 209 [p0.enc] (.bool (r)):=by
 refine .unit (aN (bA Q) func209 Q ntmps209 Q Q (λwX gX=>?_)) Q;unfold lE at hm;refine WN [0] Q Q (aP 1 Q (cT 0 Q Q Q (aH 7 Q (SX Q Q (aU TK Q Q Q) (aH 2 Q (SX Q Q (aU TK Q Q Q) (aG 3 Q (qD hm Q (λh1 hm=>?_) (λh1 hm=>?_)))))))))
 ·exact aQ 6 Q (bN hm Q)
 refine cR 2 Q (cI hm (λ_=>[]) (λ_=>[]) [] [] Q (λz2 hm hz2=>?_) (λj hm=>?_))
 ·refine aP 3 Q (SX Q Q (aU TK Q Q Q) (aG 4 Q (aT hm (λx4=>([(15,.d (.int .i64 x4))])) (λx4=>[]) [15] [1,13,14] [0] Q k0 Q Q Q Q Q (λx4 z5 hm hz5=>WN [1,13,14,15] Q Q (bK 5 Q (bG hm Q (λh6 hm=>?_) (λh6 hm=>?_)))))))
  ·refine aM 6 Q (VE hm λe7 he7 hm=>SX Q Q (bR TK Q Q Q Q he7) (aG 5 Q (aL hm (λx8=>([(46,.d (.bool (x8)))])) (λx8=>[]) [46] [1,13,14,15] Q (λz9 hm=>?_) (λx8 hm=>?_))))
   ·refine iW follows ?_;iterate 2 (refine DA [0] TK Q ?_)
    refine d_b [0] TK Q (λq10 hq10=>?_);cases q10
    ·replace hm:=JF hq10 hm;iterate 2 (refine DA [0] TK Q ?_)
     refine d_b [0] TK Q (λq11 hq11=>?_);cases q11
     ·replace hm:=JF hq11 hm;iterate 14 (refine DA [0] TK Q ?_)
      refine VE hm λe12 he12 hm=>DX [0] Q Q (bR TK Q Q Q Q he12) ?_;iterate 3 (refine DA [0] TK Q ?_)
      refine fE [0] hm (jR ·) Q Q Q Q λr13 hm=>?_;iterate 2 (refine DA [0] TK Q ?_)
      refine DT ?_ (by kernel_rfl);exact aI 1 Q (bM [0] hm Q Q)
     replace hm:=JT hq11 hm;iterate 4 (refine DA [0] TK Q ?_)
     refine GE hm λg14 hm=>DX [0] Q Q (aZ Q Q Q Q g14) (VE hm λe15 he15 hm=>DX [0] Q Q (bR TK Q Q Q Q he15) ?_);iterate 4 (refine DA [0] TK Q ?_)
     refine d_b [0] TK Q (λq16 hq16=>?_);cases q16
     ·replace hm:=JF hq16 hm;iterate 3 (refine DA [0] TK Q ?_)
      refine VE hm λe17 he17 hm=>DX [0] Q Q (bR TK Q Q Q Q he17) ?_;iterate 3 (refine DA [0] TK Q ?_)
      refine fE [0] hm (jR ·) Q Q Q Q λr18 hm=>?_;iterate 2 (refine DA [0] TK Q ?_)
      refine DT ?_ (by kernel_rfl);exact aI 1 Q (bM [0] hm Q Q)
     replace hm:=JT hq16 hm;iterate 10 (refine DA [0] TK Q ?_)
     refine DT ?_ (by kernel_rfl);exact aI 1 Q (bM [0] hm Q Q)
    replace hm:=JT hq10 hm;iterate 24 (refine DA [0] TK Q ?_)
    refine DT ?_ (by kernel_rfl);exact aI 1 Q (bM [0] hm Q Q)
   refine WN [1,13,14,15,46] Q Q (cP hm Q (λh19 hm=>?_) (λh19 hm=>?_))
   ·refine aQ 7 Q (IE hm λv20 hm hz=>?_);rw [hz5 _ hz] at hm;refine WR (bP 1 Q (IE hm λv21 hm hz=>?_));rw [hz2 _ hz] at hm;exact WR (bN hm Q)
   exact aM 4 Q (GE hm λg22 hm=>SX Q Q (aZ Q Q Q Q g22) (aI 2 Q (bU [0] hm Q Q)))
  refine aQ 2 Q (IE hm λv23 hm hz=>?_);rw [hz5 _ hz] at hm;exact WX (bP 1 Q (bU [0] hm Q Q))
 exact WN [] Q Q (aQ 5 Q (bN hm Q))
theorem yZ (n:Nat) (hn:n<=1000000000) (mv:Nat->Bool):Ret TP 182 [] mv ([.nilsl,.int .i64 n].map .d) (.msl 0 1 0 0) [.flat 3 1 []]:=by
 refine cA (bA Q) func182 Q ntmps182 Q Q (λwX gX=>bW [0,1] (bE Q (bE Q .nil)) (cE Q) (RS (dT _ Q (jO (.inr Q) Q) (TN (bW [0,1] (bE Q (bE Q .nil)) (cE Q) (TQ (RS (dT _ Q (jO (.inl Q) Q) (dT _ Q (qZ Q Q Q Q) (TN (bW [0,1,6] (bE Q (bE Q (bE Q .nil))) (cE Q) (TC _ Q (λhneg=>?_) (λhneg=>?_)))))))))))))
 ·exact absurd (of_decide_eq_true hneg) (by omega)
 refine TS (WT (bW [0,1] (bE Q (bE Q .nil)) (cE Q) (TQ (RS (dT _ Q (jO (.inl Q) Q) (dT _ Q (jO (.inl Q) Q) (dT _ Q (qJA Q qCE Q) (dT _ Q (jO (.inl Q) Q) (dT _ Q (qY Q qCE Q) ?_)))))))));refine dT _ Q (xC (r:=0) Q Q Q Q Q (by first|omega|(constructor<;>omega))) ?_;refine dT _ Q (xC (r:=(n:Int)) Q Q Q Q (by omega) (by first|omega|(constructor<;>omega))) ?_;refine dT _ Q (jO (.inr Q) Q) (TN (bW [0,1] (bE Q (bE Q .nil)) (cE Q) (RS (dT _ Q (jO (.inl Q) Q) (dT _ Q (qZ Q Q Q Q) (TN (bW [0,1,16] (bE Q (bE Q (bE Q .nil))) (cE Q) (TC _ Q (λhpos=>?_) (λhpos=>?_)))))))))
 ·have hpos:0 < n:=by simpa using hpos
  refine TG (dT _ Q (jO (.inl Q) Q) (dT _ Q (jO (.inl Q) Q) (dT _ Q (qJA Q qCE Q) (dT _ Q (qYF Q qCE Q Q Q) (dT _ Q (jO (.inl Q) Q) ?_)))));refine qXM (n:=n) Q qCE Tryz.underlying3 gR Q Q Q hpos (by decide) (by omega) (by omega) ?_;refine dT _ Q (jO (.inl Q) Q) (dT _ Q (qY Q qCE Q) (dT _ Q (qKM 0 1 8 0 n 0 0 Q qCE Q Q Q (zQW _) (Nat.zero_le _)) (dT _ Q (lY (.inr Q) Q) (TN (WT (bW [0] (gT Q .nil) (fD Q (cE Q)) (RS (dT _ Q (lY (.inl Q) Q) (dT _ Q (lY (.inr Q) Q) (TN (bW [4] (gT Q .nil) (fD Q (cE Q)) (TR ?_))))))))))));exact⟨_,[0],res Q,by decide,λi hi=>absurd hi (zQV i),Q,Q⟩
 refine qHK 0 3 1 Q (TS (WT (bW [0] (gT Q .nil) (fD Q (cE Q)) (RS (dT _ Q (lY (.inl Q) Q) (dT _ Q (lY (.inr Q) Q) (TN (bW [4] (gT Q .nil) (fD Q (cE Q)) (TR ?_)))))))));exact⟨_,[0],res Q,by decide,λi hi=>absurd hi (zQV i),Q,Q⟩
theorem vY (xss:List (List Int)) (hn:xss.length<=1000) (ht:xss.flatten.length<=1000000000) (mv:Nat->Bool):Ret TP 107 [] mv ([.sl 1 (xss.map λl=>.sl 1 (l.map (D.int .i64)))].map .d) (.msl 0 1 0 xss.flatten.length) [.flat 3 1 (xss.flatten.map (D.int .i64))]:=by
 refine cA (bA Q) func107 Q ntmps107 Q Q (λwX gX=>bW [0] (bE Q .nil) (cE Q) (RS (dT _ Q (jO (.inr Q) Q) (TN (bW [0] (bE Q .nil) (cE Q) (RS (dT _ Q (jO (.inr Q) Q) (TN (bW [0,3] (bE Q (bE Q .nil)) (cE Q) (TQ (RS (dT _ Q (jO (.inl Q) Q) ?_))))))))))));refine dT _ Q (by first|exact qKZ Q qFR Q (by first|exact zQC _|rfl)|exact qY Q qFR Q) ?_;refine dT _ Q (jO (.inl Q) Q) (TN (bW [0,3,9,10,11] (bE Q (bE Q (bE Q (bE Q (bE Q .nil))))) (cE Q) (TB ?_)));refine sU (λi=>([(3,.d (.int .i64 ((kC xss i).length:Int))),(11,.d (.int .i64 ((i:Nat):Int)))])) (λi=>[]) (λi=>i<=xss.length) (λi=>xss.length - i) [3,11] [0,9,10] [] 0 (by decide) (λi hi=>absurd hi (zQV i)) (Nat.zero_le _) (bE Q (bE Q (bE Q .nil))) Q (by rw [sP];rfl) (cE Q) Q ?_;rintro i hok;refine bW [3,11,0,9,10] (bE Q (bE Q (bE Q (bE Q (bE Q .nil))))) (cE Q) (RS (dT _ Q (qZ Q Q Q Q) (TN (bW [0,3,9,10,11,12] (bE Q (bE Q (bE Q (bE Q (bE Q (bE Q .nil)))))) (cE Q) (TQ (TC _ Q (λhlt=>?_) (λhlt=>?_)))))))
 ·have hlt:i < xss.length:=by simpa using hlt
  obtain⟨x,hx⟩:∃ x,(xss)[i]?=some x:=⟨_,zQR (by first|exact hlt|omega|(simp;omega))⟩;have hs:=mB hx;have hle:=dC xss (i+1);refine TS (WT (bW [0,3,9,10,11] (bE Q (bE Q (bE Q (bE Q (bE Q .nil))))) (cE Q) (TQ (TB (RS (dT _ Q (qAG Q qFR Q Q (qIW hx)) (dT _ Q (qEQ Q zHM Q Q) (dT _ Q (jO (.inr Q) Q) (TN (bW [0,3,5,9,10,11] (bE Q (bE Q (bE Q (bE Q (bE Q (bE Q .nil)))))) (cE Q) (RS (dT _ Q (jO (.inl Q) Q) (dT _ Q (jO (.inl Q) Q) ?_)))))))))))));refine dT _ Q (by first|exact qKZ Q qCE Q (by first|exact zQC _|rfl)|exact qY Q qCE Q) ?_;refine dT _ Q (xC (r:=((kC xss (i+1)).length:Int)) Q Q Q Q (by rw [hs];simp) (by omega)) ?_;refine dT _ Q (jO (.inr Q) Q) (TN (bW [0,3,9,10,11] (bE Q (bE Q (bE Q (bE Q (bE Q .nil))))) (cE Q) (RS (dT _ Q (jO (.inl Q) Q) (dT _ Q (qZ Q Q Q Q) (TN (bW [0,3,9,10,11,20] (bE Q (bE Q (bE Q (bE Q (bE Q (bE Q .nil)))))) (cE Q) (TC _ Q (λhneg=>?_) (λhneg=>?_)))))))))
  ·exact absurd (of_decide_eq_true hneg) (by omega)
  refine TS (WK (WT (bW [0,3,9,10,11] (bE Q (bE Q (bE Q (bE Q (bE Q .nil))))) (cE Q) (TG ?_))));refine dT _ Q (xD Q Q Q Q (by first|omega|(constructor<;>omega))) ?_;refine dT _ Q (jO (.inl Q) Q) (TN (WT ?_));exact⟨(i+1),[],by decide,(λi hi=>absurd hi (zQV i)),(by omega),(by omega),Q⟩
 have hge:¬ i < xss.length:=by simpa using hlt
 have hi:i=xss.length:=by omega
 refine zD (WX (WX (WH (WT (bW [0,3] (bE Q (bE Q .nil)) (cE Q) (RS (dT _ Q (jO (.inl Q) Q) ?_)))))));refine qIO Q Q Q (yZ _ (by have:=dC xss i;omega) (λ_=>false)) Q Q ?_;refine dT _ Q (lY (.inr Q) Q) (TN (bW [0,6] (bE Q (gT Q .nil)) (fD Q (cE Q)) (TQ (RS (dT _ Q (jO (.inl Q) Q) ?_)))));refine dT _ Q (by first|exact qKZ Q qFR Q (by first|exact zQC _|rfl)|exact qY Q qFR Q) ?_;refine dT _ Q (jO (.inl Q) Q) (TN (bW [6,25,26,27] (gT Q (bE Q (bE Q (bE Q .nil)))) (fD Q (cE Q)) (TB ?_)));refine sU (λi=>([(6,.msl 0 1 0 (kC xss i).length),(27,.d (.int .i64 ((i:Nat):Int)))])) (λi=>([(0,.flat 3 1 ((kC xss i).map (D.int .i64)))])) (λi=>i<=xss.length) (λi=>xss.length - i) [6,27] [25,26] [0] 0 (by decide) (λi hi=>absurd hi (zQV i)) (Nat.zero_le _) (bE Q (bE Q .nil)) Q (by rw [sP];rfl) (fD Q (cE Q)) (by rw [sP];rfl) ?_;rintro i hok;refine bW [6,27,25,26] (gT Q (bE Q (bE Q (bE Q .nil)))) (fD Q (cE Q)) (RS (dT _ Q (qZ Q Q Q Q) (TN (bW [6,25,26,27,28] (gT Q (bE Q (bE Q (bE Q (bE Q .nil))))) (fD Q (cE Q)) (TQ (TC _ Q (λhlt=>?_) (λhlt=>?_)))))))
 ·have hlt:i < xss.length:=by simpa using hlt
  obtain⟨x,hx⟩:∃ x,(xss)[i]?=some x:=⟨_,zQR (by first|exact hlt|omega|(simp;omega))⟩;have hs:=mB hx;have hle:=dC xss (i+1);have hsl:(kC xss (i+1)).length=(kC xss i).length+x.length:=by rw [hs];simp
  refine TS (WT (bW [6,25,26,27] (gT Q (bE Q (bE Q (bE Q .nil)))) (fD Q (cE Q)) (TQ (TB (RS (dT _ Q (qAG Q qFR Q Q (qIW hx)) (dT _ Q (qEQ Q zHM Q Q) (dT _ Q (jO (.inr Q) Q) (TN (bW [6,8,25,26,27] (gT Q (bE Q (bE Q (bE Q (bE Q .nil))))) (fD Q (cE Q)) (TG (dT _ Q (lY (.inl Q) Q) (dT _ Q (jO (.inl Q) Q) ?_)))))))))))));refine qJW (m:=(kC xss (i+1)).length) (ds:=x.map (D.int .i64)) (es':=(kC xss (i+1)).map (D.int .i64)) Q qCE gR Q Q Q (by simp) (λh=>absurd h (zQV _)) Q ⟨Q,(by first|rfl|(simp [List.map_take,List.map_drop];done)|(rw [<- List.map_drop,List.take_of_length_le (by simp)]))⟩ (by rw [hs];simp) (by simp;omega) (by omega) (by omega) Q Q ?_;refine dT _ Q (lY (.inr Q) Q) (TN (WK (WT (bW [6,25,26,27] (gT Q (bE Q (bE Q (bE Q .nil)))) (fD Q (cE Q)) (TG ?_)))));refine dT _ Q (xD Q Q Q Q (by first|omega|(constructor<;>omega))) ?_;refine dT _ Q (jO (.inl Q) Q) (TN (WT ?_));exact⟨(i+1),[0],by decide,(λi hi=>absurd hi (zQV i)),(by omega),(by omega),Q⟩
 have hge:¬ i < xss.length:=by simpa using hlt
 have hi:i=xss.length:=by omega
 have hall:=qUA hge;refine zD (WX (WX (WH (WT (bW [6] (gT Q .nil) (fD Q (cE Q)) (RS (dT _ Q (lY (.inl Q) Q) (dT _ Q (lY (.inr Q) Q) (TN (bW [2] (gT Q .nil) (fD Q (cE Q)) (TR ?_)))))))))));rw [hall];exact⟨_,[0],res Q,by decide,λi hi=>absurd hi (zQV i),Q,Q⟩
theorem lS {p0:List (List Int)} {r:List Int} (hm:iO p0=some r):RetN TP 107 [.sl 1 (p0.map (λl=>D.sl 1 (l.map (D.int .i64))))] (.sl 1 (r.map (D.int .i64))):=by
 unfold iO at hm;refine GE hm λg hm=>?_;obtain rfl:=OJ hm;exact .flat (vY p0 g.1 g.2 (λ_=>false)) (by rw [zQC]) (λe he=>by obtain⟨x,_,rfl⟩:=List.mem_map.1 he;rfl)
theorem qCV {p0:Am} {p1:Aj} {r:Bool} (hm:kS p0 p1=some r):RetN TP 210 [p0.enc,p1.enc] (.bool (r)):=by
 refine .unit (aN (bA Q) func210 Q ntmps210 Q Q (λwX gX=>?_)) Q;unfold kS at hm;refine WN [0,1] Q Q (aP 1 Q (cT 0 Q Q Q (cT 1 Q Q Q (aG 4 Q (aL hm (λx1=>([(26,.d (.bool (x1)))])) (λx1=>[]) [26] [2,3] Q (λz2 hm=>?_) (λx1 hm=>?_))))))
 ·refine aP 5 Q (c_N hm (jR ·) Q Q Q Q λr3 hm=>aH 1 Q (SB TK Q (λq4 hq4=>?_)));cases q4
  ·replace hm:=JB hq4 hm;refine aH 3 Q (SB TK Q (λq5 hq5=>?_));cases q5
   ·replace hm:=qAF hq5 hm;exact aI 9 Q (bM [0,1] hm Q Q)
   replace hm:=qAE hq5 hm;exact aH 4 Q (c_N hm (jR ·) Q Q Q Q λr6 hm=>aI 4 Q (bM [0,1] hm Q Q))
  replace hm:=JA hq4 hm;exact aI 13 Q (bM [0,1] hm Q Q)
 refine WN [2,3,26] Q Q (cP hm Q (λh7 hm=>?_) (λh7 hm=>?_))
 ·exact aQ 6 Q (bN hm Q)
 refine cR 3 Q ?_;refine iC [(42,.d (.bool (((decide ((p1.path.length:Int) < (1:Int)))||((decide ((12:Int) < (p1.path.length:Int)))||(decide ((p1.Aa.length:Int)=(0:Int))))))))] [42] [2,3] Q ?_ ?_
 ·refine aP 3 Q (SX Q Q (aU TK Q Q Q) (aH 1 Q (SB TK Q (λq8 hq8=>?_))));cases q8
  ·refine aH 2 Q (SX Q Q (aU TK Q Q Q) (aH 2 Q (SB TK Q (λq9 hq9=>?_))));cases q9
   ·refine aH 2 Q (SX Q Q (aU TK Q Q Q) (aI 3 Q ?_));exact⟨[0,1],Q,k0,bX (aV (aX (by first|(simp [hq8,hq9];done)|(simp only [hq8,hq9];simp))) Q) Q⟩
   refine aI 6 Q ?_;exact⟨[0,1],Q,k0,bX (aV (aX (by first|(simp [hq8,hq9];done)|(simp only [hq8,hq9];simp))) Q) Q⟩
  refine aI 12 Q ?_;exact⟨[0,1],Q,k0,bX (aV (aX (by first|(simp [hq8];done)|(simp only [hq8];simp))) Q) Q⟩
 refine WN [2,3,42] Q Q (cP hm Q (λh10 hm=>?_) (λh10 hm=>?_))
 ·exact aQ 6 Q (bN hm Q)
 refine aM 3 Q (s_ala (f:=D.bool) (x:=false) 2 23 Q Q zDZ Q Q Q (aG 2 Q (cI hm (λb11=>[]) (λb11=>([(2,.flat 247 1 (b11.map D.bool))])) [] [2,3] Q (λz12 hm hz12=>?_) (λb11 hm=>?_))))
 ·refine aP 5 Q (SX Q Q (cM [.tmp 44,.tmp 46] TK Q Q qJH Q Q Q Q Q) (c_N hm (lS ·) Q Q Q Q λr13 hm=>SX Q Q (aU TK Q Q Q) (aG 4 Q (aT hm (λ(x17,b18)=>([(50,.d (.int .i64 x17))])) (λ(x17,b18)=>([(2,.flat 247 1 (b18.map D.bool))])) [50] [2,3,5,48,49] [0,1,2] Q k0 Q Q Q Q Q (λs z19 hm hz19=>?_)))));obtain⟨x17,b18⟩:=s;refine WN [2,3,5,48,49,50] Q Q (bK 5 Q (bG hm Q (λh20 hm=>?_) (λh20 hm=>?_)))
  ·refine aM 5 Q (VE hm λe21 he21 hm=>SX Q Q (bR TK Q Q Q Q he21) (aG 5 Q (aL hm (λx22=>([(63,.d (.bool (x22)))])) (λx22=>[]) [63] [2,3,5,7,48,49,50] Q (λz23 hm=>?_) (λx22 hm=>?_))))
   ·refine aP 4 Q (c_N hm (jR ·) Q Q Q Q λr24 hm=>aH 1 Q (SB TK Q (λq25 hq25=>?_)));cases q25
    ·replace hm:=JB hq25 hm;exact aH 1 Q (GE hm λg27 hm=>VE hm λe26 he26 hm=>SX Q Q (zGX Q qYR Q Q he26 g27) (SX Q Q (vW TK Q Q Q Q he26.2 Q) (aI 2 Q (bM [0,1,2] hm Q Q))))
    replace hm:=JA hq25 hm;exact aI 5 Q (bM [0,1,2] hm Q Q)
   refine WN [2,3,5,7,48,49,50,63] Q Q (cP hm Q (λh28 hm=>?_) (λh28 hm=>?_))
   ·refine aQ 8 Q (IE hm λv29 hm hz=>?_);rw [hz19 _ hz] at hm;refine WR (bP 1 Q (IE hm λv30 hm hz=>?_));rw [hz12 _ hz] at hm;exact WR (bN hm Q)
   exact aM 4 Q (GE hm λg32 hm=>VE hm λe31 he31 hm=>SX Q Q (zGX Q qYR Q Q he31 g32) (qXN (x':=true) TK Q Q Q Q Q he31.2 Q Q Q (aH 4 Q (GE hm λg33 hm=>SX Q Q (aZ Q Q Q Q g33) (aI 2 Q (bU [0,1,2] hm Q Q))))))
  refine aQ 2 Q (IE hm λv34 hm hz=>?_);rw [hz19 _ hz] at hm;exact WX (bP 1 Q (bU [0,1,2] hm Q Q))
 refine WN [2,3] Q Q (aL hm (λx35=>([(4,.d (.bool (x35)))])) (λx35=>[]) [4] [] Q (λz36 hm=>?_) (λx35 hm=>?_))
 ·refine aP 5 Q (c_N hm (jR ·) Q Q Q Q λr37 hm=>SB TK Q (λq38 hq38=>?_));cases q38
  ·replace hm:=JB hq38 hm;exact aI 6 Q (bM [0,1,2] hm Q Q)
  replace hm:=JA hq38 hm;exact aI 6 Q (bM [0,1,2] hm Q Q)
 exact WN [4] Q Q (aQ 1 Q (bN hm Q))
theorem gD {p0:(List Int)} {p1:Int} {r:Int} (hm:eD p0 p1=some r):RetN TP 95 [.sl 1 (p0.map (D.int .i64)),.int .i64 p1] (.int .i64 r):=by
 refine .unit (aN (bA Q) func95 Q ntmps95 Q Q (λwX gX=>?_)) Q;unfold eD at hm;refine WN [0,1] Q Q (bK 4 Q (cI hm (λ_=>[]) (λ_=>[]) [] [] Q (λz1 hm hz1=>?_) (λj hm=>?_)))
 ·refine aP 2 Q (SX Q Q (aU TK Q Q Q) (aG 4 Q (aT hm (λx3=>([(8,.d (.int .i64 x3))])) (λx3=>[]) [8] [0,1,7] [] Q k0 Q Q Q Q Q (λx3 z4 hm hz4=>WN [0,1,7,8] Q Q (bK 5 Q (bG hm Q (λh5 hm=>?_) (λh5 hm=>?_)))))))
  ·refine aM 13 Q (VE hm λe6 he6 hm=>SX Q Q (bR TK Q Q Q Q he6) (aG 4 Q (bG hm Q (λh7 hm=>?_) (λh7 hm=>?_))))
   ·refine aQ 8 Q (IE hm λv8 hm hz=>?_);rw [hz4 _ hz] at hm;refine WR (bP 1 Q (IE hm λv9 hm hz=>?_));rw [hz1 _ hz] at hm;exact WR (bN hm Q)
   exact aM 4 Q (GE hm λg10 hm=>SX Q Q (aZ Q Q Q Q g10) (aI 2 Q (bU [] hm Q Q)))
  refine aQ 2 Q (IE hm λv11 hm hz=>?_);rw [hz4 _ hz] at hm;exact WX (bP 1 Q (bU [] hm Q Q))
 exact WN [] Q Q (aQ 5 Q (bN hm Q))
theorem kN {p0:Am} {p1:Int} {r:Int} (hm:iD p0 p1=some r):RetN TP 103 [p0.enc,.int .i64 p1] (.int .i64 r):=by
 refine .unit (aN (bA Q) func103 Q ntmps103 Q Q (λwX gX=>?_)) Q;unfold iD at hm;exact WN [0,1] Q Q (aP 1 Q (cT 0 Q Q Q (aH 7 Q (c_N hm (gD ·) Q Q Q Q λr1 hm=>aI 4 Q (bN hm Q)))))
theorem mY {p0:Am} {p1:(List Ag)} {r:Bool} (hm:eW p0 p1=some r):RetN TP 211 [p0.enc,.sl 2 (p1.map Ag.enc)] (.bool (r)):=by
 refine .unit (aN (bA Q) func211 Q ntmps211 Q Q (λwX gX=>?_)) Q;unfold eW at hm;refine WN [0,1] Q Q (aP 1 Q (cT 0 Q Q Q (aG 3 Q (cI hm (λ_=>[]) (λ_=>[]) [] [] Q (λz1 hm hz1=>?_) (λj hm=>?_)))))
 ·refine aP 2 Q (SX Q Q (aU TK Q Q Q) (aG 4 Q (aT hm (λx3=>([(9,.d (.int .i64 x3))])) (λx3=>[]) [9] [1,2,7,8] [0] Q k0 Q Q Q Q Q (λx3 z4 hm hz4=>WN [1,2,7,8,9] Q Q (bK 5 Q (bG hm Q (λh5 hm=>?_) (λh5 hm=>?_)))))))
  ·refine aM 6 Q (VE hm λe6 he6 hm=>SX Q Q (bR TK Q Q Q Q he6) (aH 1 Q (cD 1 Q Q fT Q (aG 5 Q (aL hm (λx7=>([(33,.d (.bool (x7)))])) (λx7=>[]) [33] [1,2,6,7,8,9] Q (λz8 hm=>?_) (λx7 hm=>?_))))))
   ·refine iW follows ?_;iterate 2 (refine DA [0,1] TK Q ?_)
    refine d_b [0,1] TK Q (λq9 hq9=>?_);cases q9
    ·replace hm:=JF hq9 hm;iterate 14 (refine DA [0,1] TK Q ?_)
     refine fE [0,1] hm (kN ·) Q Q Q Q λr10 hm=>?_;iterate 2 (refine DA [0,1] TK Q ?_)
     refine DT ?_ (by kernel_rfl);exact aI 1 Q (bM [0,1] hm Q Q)
    replace hm:=JT hq9 hm;iterate 4 (refine DA [0,1] TK Q ?_)
    refine GE hm λg11 hm=>DX [0,1] Q Q (aZ Q Q Q Q g11) (VE hm λe12 he12 hm=>DX [0,1] Q Q (bR TK Q Q Q Q he12) ?_);iterate 4 (refine DA [0,1] TK Q ?_)
    refine d_b [0,1] TK Q (λq13 hq13=>?_);cases q13
    ·replace hm:=JF hq13 hm;iterate 3 (refine DA [0,1] TK Q ?_)
     refine fE [0,1] hm (kN ·) Q Q Q Q λr14 hm=>?_;iterate 2 (refine DA [0,1] TK Q ?_)
     refine DT ?_ (by kernel_rfl);exact aI 1 Q (bM [0,1] hm Q Q)
    replace hm:=JT hq13 hm;iterate 6 (refine DA [0,1] TK Q ?_)
    refine DT ?_ (by kernel_rfl);exact aI 1 Q (bM [0,1] hm Q Q)
   refine WN [1,2,6,7,8,9,33] Q Q (cP hm Q (λh15 hm=>?_) (λh15 hm=>?_))
   ·refine aQ 8 Q (IE hm λv16 hm hz=>?_);rw [hz4 _ hz] at hm;refine WR (bP 1 Q (IE hm λv17 hm hz=>?_));rw [hz1 _ hz] at hm;exact WR (bN hm Q)
   refine cR 2 Q (iC [(41,.d (.bool (((!(decide (e6.pos=(1:Int))))&&(!(decide (e6.pos=(2:Int))))))))] [41] [1,2,7,8,9] Q ?_ ?_)
   ·refine aP 4 Q (SB TK Q (λq18 hq18=>?_));cases q18
    ·refine aI 5 Q ?_;exact⟨[0,1],Q,k0,bX (aV (aX (by first|(simp [hq18];done)|(simp only [hq18];simp))) Q) Q⟩
    refine aI 5 Q ?_;exact⟨[0,1],Q,k0,bX (aV (aX (by first|(simp [hq18];done)|(simp only [hq18];simp))) Q) Q⟩
   refine WN [1,2,7,8,9,41] Q Q (cP hm Q (λh19 hm=>?_) (λh19 hm=>?_))
   ·refine aQ 7 Q (IE hm λv20 hm hz=>?_);rw [hz4 _ hz] at hm;refine WR (bP 1 Q (IE hm λv21 hm hz=>?_));rw [hz1 _ hz] at hm;exact WR (bN hm Q)
   exact aM 4 Q (GE hm λg22 hm=>SX Q Q (aZ Q Q Q Q g22) (aI 2 Q (bU [0] hm Q Q)))
  refine aQ 2 Q (IE hm λv23 hm hz=>?_);rw [hz4 _ hz] at hm;exact WX (bP 1 Q (bU [0] hm Q Q))
 exact WN [] Q Q (aQ 5 Q (bN hm Q))
theorem qR {p0:(List Ag)} {p1:(List Ag)} {r:Bool} (hm:iA p0 p1=some r):RetN TP 212 [.sl 2 (p0.map Ag.enc),.sl 2 (p1.map Ag.enc)] (.bool (r)):=by
 refine .unit (aN (bA Q) func212 Q ntmps212 Q Q (λwX gX=>?_)) Q;unfold iA at hm;refine WN [0,1] Q Q (bK 4 Q (cI hm (λ_=>[]) (λ_=>[]) [] [] Q (λz1 hm hz1=>?_) (λj hm=>?_)))
 ·refine aP 2 Q (SX Q Q (aU TK Q Q Q) (aG 4 Q (aT hm (λx3=>([(11,.d (.int .i64 x3))])) (λx3=>[]) [11] [1,9,10] [] Q k0 Q Q Q Q Q (λx3 z4 hm hz4=>WN [1,9,10,11] Q Q (bK 5 Q (bG hm Q (λh5 hm=>?_) (λh5 hm=>?_)))))))
  ·refine cR 2 Q (cI hm (λ_=>[]) (λ_=>[]) [] [1,9,10,11] Q (λz6 hm hz6=>?_) (λj hm=>?_))
   ·refine aP 2 Q (VE hm λe7 he7 hm=>SX Q Q (bR TK Q Q Q Q he7) (aH 1 Q (cD 0 Q Q fT Q (aH 5 Q (SX Q Q (aU TK Q Q Q) (aG 4 Q (aT hm (λx9=>([(17,.d (.int .i64 x9))])) (λx9=>[]) [17] [1,6,9,10,11,15,16] [0] Q k0 Q Q Q Q Q (λx9 z10 hm hz10=>WN [1,6,9,10,11,15,16,17] Q Q (bK 5 Q (bG hm Q (λh11 hm=>?_) (λh11 hm=>?_)))))))))))
    ·refine aM 5 Q (VE hm λe12 he12 hm=>SX Q Q (bR TK Q Q Q Q he12) (aH 1 Q (cD 1 Q Q fT Q (aG 3 Q (iC [(32,.d (.bool (((decide (e7.el=e12.el))&&(!(decide (e7.pos=e12.pos)))))))] [32] [1,6,9,10,11,15,16,17] Q ?_ ?_)))))
     ·refine aP 6 Q (SB TK Q (λq13 hq13=>?_));cases q13
      ·refine aI 7 Q ?_;exact⟨[0,1],Q,k0,bX (aV (aX (by first|(simp [hq13];done)|(simp only [hq13];simp))) Q) Q⟩
      refine aI 7 Q ?_;exact⟨[0,1],Q,k0,bX (aV (aX (by first|(simp [hq13];done)|(simp only [hq13];simp))) Q) Q⟩
     refine WN [1,6,9,10,11,15,16,17,32] Q Q (cP hm Q (λh14 hm=>?_) (λh14 hm=>?_))
     ·refine aQ 7 Q (IE hm λv15 hm hz=>?_);rw [hz10 _ hz] at hm;refine WR (bP 2 Q (IE hm λv16 hm hz=>?_));rw [hz6 _ hz] at hm;refine WR (IE hm λv17 hm hz=>?_);rw [hz4 _ hz] at hm;refine WR (bP 1 Q (IE hm λv18 hm hz=>?_));rw [hz1 _ hz] at hm;exact WR (bN hm Q)
     exact aM 4 Q (GE hm λg19 hm=>SX Q Q (aZ Q Q Q Q g19) (aI 2 Q (bU [0] hm Q Q)))
    refine aQ 2 Q (IE hm λv20 hm hz=>?_);rw [hz10 _ hz] at hm;exact WX (bP 2 Q (bU [] hm Q Q))
   exact WN [1,9,10,11] Q Q (aM 1 Q (GE hm λg21 hm=>SX Q Q (aZ Q Q Q Q g21) (aI 2 Q (bU [] hm Q Q))))
  refine aQ 2 Q (IE hm λv22 hm hz=>?_);rw [hz4 _ hz] at hm;exact WX (bP 1 Q (bU [] hm Q Q))
 exact WN [] Q Q (aQ 5 Q (bN hm Q))
theorem qMJ {p0:Am} {r:Int} (hm:rC p0=some r):RetN TP 156 [p0.enc] (.int .i64 r):=by
 refine .unit (aN (bA Q) func156 Q ntmps156 Q Q (λwX gX=>?_)) Q;unfold rC at hm;refine WN [0] Q Q (aP 1 Q (cT 0 Q Q Q (aG 4 Q (aL hm (λx1=>([(33,.d (.bool (x1)))])) (λx1=>[]) [33] [1] Q (λz2 hm=>?_) (λx1 hm=>?_)))))
 ·refine aP 3 Q (SX Q Q (aU TK Q Q Q) (aH 1 Q (SB TK Q (λq3 hq3=>?_))));cases q3
  ·replace hm:=JF hq3 hm;refine aH 2 Q (SX Q Q (aU TK Q Q Q) (aH 2 Q (SB TK Q (λq4 hq4=>?_))));cases q4
   ·replace hm:=JF hq4 hm;refine aH 2 Q (c_N hm (jR ·) Q Q Q Q λr5 hm=>aH 2 Q (SB TK Q (λq6 hq6=>?_)));cases q6
    ·replace hm:=JB hq6 hm;exact aH 2 Q (c_N hm (jR ·) Q Q Q Q λr7 hm=>aI 3 Q (bM [0] hm Q Q))
    replace hm:=JA hq6 hm;exact aI 6 Q (bM [0] hm Q Q)
   replace hm:=JT hq4 hm;exact aI 12 Q (bM [0] hm Q Q)
  replace hm:=JT hq3 hm;exact aI 18 Q (bM [0] hm Q Q)
 refine WN [1,33] Q Q (cP hm Q (λh8 hm=>?_) (λh8 hm=>?_))
 ·exact aQ 6 Q (bN hm Q)
 refine aM 5 Q (c_N hm (qBX ·) Q Q Q Q λr9 hm=>aG 3 Q (cP hm Q (λh10 hm=>?_) (λh10 hm=>?_)))
 ·exact aQ 6 Q (bN hm Q)
 refine cR 2 Q (cI hm (λ_=>[]) (λ_=>[]) [] [1] Q (λz11 hm hz11=>?_) (λj hm=>?_))
 ·refine aP 3 Q (SX Q Q (aU TK Q Q Q) (aG 4 Q (aT hm (λx13=>([(40,.d (.int .i64 x13))])) (λx13=>[]) [40] [1,38,39] [0] Q k0 Q Q Q Q Q (λx13 z14 hm hz14=>WN [1,38,39,40] Q Q (bK 5 Q (bG hm Q (λh15 hm=>?_) (λh15 hm=>?_)))))))
  ·refine aM 5 Q (VE hm λe16 he16 hm=>SX Q Q (bR TK Q Q Q Q he16) (aH 1 Q (cD 1 Q Q fL Q (bY 1 [none,none,none,some 3,some 2,some 1,none,none,some 3,some 2,some 1,some 2,some 1,some 2] Q Q (aH 6 Q (c_N hm (qCV ·) Q Q Q Q λr17 hm=>aG 3 Q (cP hm Q (λh18 hm=>?_) (λh18 hm=>?_))))))))
   ·refine aQ 7 Q (IE hm λv19 hm hz=>?_);rw [hz14 _ hz] at hm;refine WR (bP 1 Q (IE hm λv20 hm hz=>?_));rw [hz11 _ hz] at hm;exact WR (bN hm Q)
   exact aM 4 Q (GE hm λg21 hm=>SX Q Q (aZ Q Q Q Q g21) (aI 2 Q (bU [0] hm Q Q)))
  refine aQ 2 Q (IE hm λv22 hm hz=>?_);rw [hz14 _ hz] at hm;exact WX (bP 1 Q (bU [0] hm Q Q))
 refine WN [1] Q Q (cI hm (λ_=>[]) (λ_=>[]) [] [1] Q (λz23 hm hz23=>?_) (λj hm=>?_))
 ·refine aP 3 Q (SX Q Q (aU TK Q Q Q) (aG 4 Q (aT hm (λx25=>([(52,.d (.int .i64 x25))])) (λx25=>[]) [52] [1,50,51] [0] Q k0 Q Q Q Q Q (λx25 z26 hm hz26=>WN [1,50,51,52] Q Q (bK 5 Q (bG hm Q (λh27 hm=>?_) (λh27 hm=>?_)))))))
  ·refine aM 5 Q (VE hm λe28 he28 hm=>SX Q Q (bR TK Q Q Q Q he28) (aH 1 Q (cD 1 Q Q fL Q (bY 1 [none,none,none,some 3,some 2,some 1,none,none,some 3,some 2,some 1,some 2,some 1,some 2] Q Q (aG 3 Q (aL hm (λx29=>([(74,.d (.bool (x29)))])) (λx29=>[]) [74] [1,50,51,52] Q (λz30 hm=>?_) (λx29 hm=>?_)))))))
   ·refine aP 4 Q (c_N hm (mY ·) Q Q Q Q λr31 hm=>aH 1 Q (SB TK Q (λq32 hq32=>?_)));cases q32
    ·replace hm:=JB hq32 hm;refine aH 3 Q (c_N hm (mY ·) Q Q Q Q λr33 hm=>aH 2 Q (SB TK Q (λq34 hq34=>?_)));cases q34
     ·replace hm:=JB hq34 hm;exact aH 3 Q (c_N hm (mY ·) Q Q Q Q λr35 hm=>aI 3 Q (bM [0,1] hm Q Q))
     replace hm:=JA hq34 hm;exact aI 7 Q (bM [0,1] hm Q Q)
    replace hm:=JA hq32 hm;exact aI 14 Q (bM [0,1] hm Q Q)
   refine WN [1,50,51,52,74] Q Q (cP hm Q (λh36 hm=>?_) (λh36 hm=>?_))
   ·refine aQ 7 Q (IE hm λv37 hm hz=>?_);rw [hz26 _ hz] at hm;refine WR (bP 1 Q (IE hm λv38 hm hz=>?_));rw [hz23 _ hz] at hm;exact WR (bN hm Q)
   exact aM 4 Q (GE hm λg39 hm=>SX Q Q (aZ Q Q Q Q g39) (aI 2 Q (bU [0] hm Q Q)))
  refine aQ 2 Q (IE hm λv40 hm hz=>?_);rw [hz26 _ hz] at hm;exact WX (bP 1 Q (bU [0] hm Q Q))
 refine WN [1] Q Q (cI hm (λ_=>[]) (λ_=>[]) [] [1] Q (λz41 hm hz41=>?_) (λj hm=>?_))
 ·refine aP 3 Q (SX Q Q (aU TK Q Q Q) (aG 4 Q (aT hm (λx43=>([(79,.d (.int .i64 x43))])) (λx43=>[]) [79] [1,77,78] [0] Q k0 Q Q Q Q Q (λx43 z44 hm hz44=>WN [1,77,78,79] Q Q (bK 5 Q (bG hm Q (λh45 hm=>?_) (λh45 hm=>?_)))))))
  ·refine aM 5 Q (VE hm λe46 he46 hm=>SX Q Q (bR TK Q Q Q Q he46) (aH 1 Q (cD 1 Q Q fL Q (bY 1 [none,none,none,some 3,some 2,some 1,none,none,some 3,some 2,some 1,some 2,some 1,some 2] Q Q (aG 3 Q (aL hm (λx47=>([(104,.d (.bool (x47)))])) (λx47=>[]) [104] [1,77,78,79] Q (λz48 hm=>?_) (λx47 hm=>?_)))))))
   ·refine aP 5 Q (c_N hm (qR ·) Q Q Q Q λr49 hm=>aH 1 Q (SB TK Q (λq50 hq50=>?_)));cases q50
    ·replace hm:=JB hq50 hm;refine aH 4 Q (c_N hm (qR ·) Q Q Q Q λr51 hm=>aH 2 Q (SB TK Q (λq52 hq52=>?_)));cases q52
     ·replace hm:=JB hq52 hm;exact aH 4 Q (c_N hm (qR ·) Q Q Q Q λr53 hm=>aI 3 Q (bM [0,1] hm Q Q))
     replace hm:=JA hq52 hm;exact aI 8 Q (bM [0,1] hm Q Q)
    replace hm:=JA hq50 hm;exact aI 16 Q (bM [0,1] hm Q Q)
   refine WN [1,77,78,79,104] Q Q (cP hm Q (λh54 hm=>?_) (λh54 hm=>?_))
   ·refine aQ 7 Q (IE hm λv55 hm hz=>?_);rw [hz44 _ hz] at hm;refine WR (bP 1 Q (IE hm λv56 hm hz=>?_));rw [hz41 _ hz] at hm;exact WR (bN hm Q)
   exact aM 4 Q (GE hm λg57 hm=>SX Q Q (aZ Q Q Q Q g57) (aI 2 Q (bU [0] hm Q Q)))
  refine aQ 2 Q (IE hm λv58 hm hz=>?_);rw [hz44 _ hz] at hm;exact WX (bP 1 Q (bU [0] hm Q Q))
 refine WN [1] Q Q (aM 1 Q (qNX 9 4 Q (zBL 106 (.mmap 1) Q Q (aG 3 Q (cI hm (λm59=>[]) (λm59=>([(1,.map 9 4 (eC D.str D.bool m59))])) [] [] Q (λz60 hm hz60=>?_) (λm59 hm=>?_))))))
 ·refine aP 3 Q (SX Q Q (aU TK Q Q Q) (aG 4 Q (aT hm (λ(x64,b65)=>([(110,.d (.int .i64 x64))])) (λ(x64,b65)=>([(1,.map 9 4 (eC D.str D.bool b65))])) [110] [9,108,109] [0,1] Q k0 Q Q Q Q Q (λs z66 hm hz66=>?_))));obtain⟨x64,b65⟩:=s;refine WN [9,108,109,110] Q Q (bK 5 Q (bG hm Q (λh67 hm=>?_) (λh67 hm=>?_)))
  ·refine aM 5 Q (VE hm λe68 he68 hm=>SX Q Q (bR TK Q Q Q Q he68) (aH 1 Q (cD 2 Q Q fL Q (bY 2 [none,none,none,some 3,some 2,some 1,none,none,some 3,some 2,some 1,some 2,some 1,some 2] Q Q (aH 8 Q (GE hm λg69 hm=>SX Q Q (qXB qET D.bool _ _ false Q zCR qJG Q Q Q Q g69) (aG 2 Q (cP hm Q (λh70 hm=>?_) (λh70 hm=>?_)))))))))
   ·refine aQ 8 Q (IE hm λv71 hm hz=>?_);rw [hz66 _ hz] at hm;refine WR (bP 1 Q (IE hm λv72 hm hz=>?_));rw [hz60 _ hz] at hm;exact WR (bN hm Q)
   exact aM 6 Q (GE hm λg73 hm=>zBK qET D.bool zCR Q Q Q Q g73 (aH 4 Q (GE hm λg74 hm=>SX Q Q (aZ Q Q Q Q g74) (aI 2 Q (bU [0,1] hm Q Q)))))
  refine aQ 2 Q (IE hm λv75 hm hz=>?_);rw [hz66 _ hz] at hm;exact WX (bP 1 Q (bU [0,1] hm Q Q))
 exact WN [] Q Q (aQ 5 Q (bN hm Q))
theorem dJ {p0:Ax} {p1:Int} {r:Int} (hm:cB p0 p1=some r):RetN TP 157 [p0.enc,.int .i64 p1] (.int .i64 r):=by
 refine .unit (aN (bA Q) func157 Q ntmps157 Q Q (λwX gX=>?_)) Q;unfold cB at hm;exact WN [0,1] Q Q (aP 1 Q (cT 0 Q Q Q (aH 8 Q (VE hm λe1 he1 hm=>SX Q Q (bR TK Q Q Q Q he1) (aH 2 Q (SX Q Q (aU TK Q Q Q) (GE hm λg2 hm=>SX Q Q (aZ Q Q Q Q g2) (aI 4 Q (bN hm Q)))))))))
theorem qHE {p0:Am} {r0:Ax} {r1:Int} (hm:mD p0=some (r0,r1)):RetT TP 82 [p0.enc] [r0.enc,.int .i64 r1]:=by
 refine .of (mv:=λ_=>false) (jY (bA Q) func82 Q ntmps82 Q Q (λwX gX=>?_));unfold mD at hm;refine WN [0] Q Q (aP 1 Q (cT 0 Q Q Q (cD 1 Q Q qAW Q (iF (f:=(D.int .i64)) 1 6 2 3 1 Q Q Q (bY 1 [some 14,some 1,some 1,none,none,none,none,none,none] Q Q (aH 6 Q (c_N hm (qMJ ·) Q Q Q Q λr1 hm=>aG 8 Q (qD hm Q (λh2 hm=>?_) (λh2 hm=>?_)))))))))
 ·refine aM 1 Q (SX Q Q (kG Q qVU qAW Q Q Q Q) (aH 2 Q (iF (f:=(D.int .i64)) 1 6 3 3 1 Q Q Q (bY 1 [some 14,some 1,some 1,none,none,none,none,none,none] Q Q (aI 5 Q ?_)))));obtain⟨rfl,rfl⟩:=Prod.mk.inj (Option.some.inj hm);exact⟨_,.mk _ (.cons (.agg (TK.lay Q) Q Q Q Q) (.cons (.tmp 3) .nil)) Q,(.cons (jS (.cons (.d _) Q (.cons (.d _) Q (.cons (.d _) Q (.cons (.d _) Q (.cons (.d _) Q (.cons (.d _) Q (.cons (dA Q) Q (.cons (.d _) Q (.cons (.d _) Q .nil)))))))))) (.refl _) (.cons (.d _) (.refl _) .nil))⟩
 refine aM 4 Q (SX Q Q (kG Q qVU qAW Q Q Q Q) (cD 3 Q Q qAW Q (iF (f:=(D.int .i64)) 3 6 4 3 1 Q Q Q (bY 3 [some 14,some 1,some 1,none,none,none,none,none,none] Q Q (aH 1 Q (iF (f:=(D.int .i64)) 3 6 5 3 1 Q Q Q (aG 2 Q (WN [1,2,5] Q Q (aM 3 Q (GE hm λg3 hm=>SX Q Q (aZ Q Q Q Q g3) (aH 2 Q (SX Q Q (aU TK Q Q Q) ?_))))))))))));refine GE hm λg4 hm=>SX Q Q (aZ Q Q Q Q g4) (GE hm λg5 hm=>SX Q Q (aZ Q Q Q Q g5) (aH 2 Q (SX Q Q (aU TK Q Q Q) (GE hm λg6 hm=>SX Q Q (aZ Q Q Q Q g6) (GE hm λg7 hm=>SX Q Q (aZ Q Q Q Q g7) (aG 4 Q (WN [1,2,5] Q Q (aM 5 Q (SX Q Q (aU TK Q Q Q) ?_)))))))));refine GE hm λg8 hm=>SX Q Q (aZ Q Q Q Q g8) (aG 4 Q (WN [1,2,5] Q Q (aL hm (λ(c9,b10)=>[]) (λ(c9,b10)=>([(3,.box 131 [.d (.sl 14 (p0.Ac.map Aj.enc)),.d (.sl 1 (p0.Ae.map (D.int .i64))),.d (.sl 1 (p0.As.map (D.int .i64))),.d (.int .i64 p0.Aa),.d (.int .i64 p0.Al),.d (.int .i64 ((((2:Int) * p0.Aa)+((2:Int) * (p0.Ae.length:Int)))+((4:Int) * (p0.Ac.length:Int)))),.msl 5 1 0 b10.length,.d (.int .i64 c9),.d (.int .i64 (0:Int))]),(5,.flat 3 1 (b10.map (D.int .i64)))])) [] [1,2,5] Q (λz11 hm=>?_) (λj hm=>?_))))
 ·refine aP 3 Q (SX Q Q (aU TK Q Q Q) (aG 4 Q (aT hm (λ(x16,c17,b18)=>([(39,.d (.int .i64 x16))])) (λ(x16,c17,b18)=>([(3,.box 131 [.d (.sl 14 (p0.Ac.map Aj.enc)),.d (.sl 1 (p0.Ae.map (D.int .i64))),.d (.sl 1 (p0.As.map (D.int .i64))),.d (.int .i64 p0.Aa),.d (.int .i64 p0.Al),.d (.int .i64 ((((2:Int) * p0.Aa)+((2:Int) * (p0.Ae.length:Int)))+((4:Int) * (p0.Ac.length:Int)))),.msl 5 1 0 b18.length,.d (.int .i64 c17),.d (.int .i64 (0:Int))]),(5,.flat 3 1 (b18.map (D.int .i64)))])) [39] [1,2,5,38] [0,1,2,3,4,5] Q k0 Q Q Q Q Q (λs z19 hm hz19=>?_))));obtain⟨x16,c17,b18⟩:=s;refine WN [1,2,5,38,39] Q Q (bK 5 Q (bG hm Q (λh20 hm=>?_) (λh20 hm=>?_)))
  ·refine aM 14 Q (SX Q Q (cM [.tmp 45] TK Q Q gR Q Q Q Q Q) (GE hm λg21 hm=>cF (f:=(D.int .i64)) ([c17]:List Int) TK Q Q gR Q Q Q Q Q (λh=>absurd h (zQV _)) Q bZ g21 Q Q (aG 4 Q (WN [1,2,5,6,38,39] Q Q (cU follows ?_)))));iterate 4 (refine DA [0,1,2,3,4,5] TK Q ?_)
   refine BE hm λr22 hr22 hm=>DX [0,1,2,3,4,5] Q Q (RN Q Q (SC (jS (.cons (.d _) Q (.cons (.d _) Q (.cons (.d _) Q (.cons (.d _) Q (.cons (.d _) Q (.cons (.d _) Q (.cons (dA Q) Q (.cons (.d _) Q (.cons (.d _) Q .nil)))))))))) (qU Q)) (dJ hr22)) (GE hm λg23 hm=>DX [0,1,2,3,4,5] Q Q (aZ Q Q Q Q g23) (GE hm λg24 hm=>DX [0,1,2,3,4,5] Q Q (aZ Q Q Q Q g24) (GE hm λg25 hm=>DX [0,1,2,3,4,5] Q Q (aZ Q Q Q Q g25) (DA [0,1,2,3,4,5] TK Q ?_))));refine DT ?_ (by kernel_rfl);exact aG 4 Q (WN [1,2,5,38,39] Q Q (aM 1 Q (GE hm λg26 hm=>SX Q Q (aZ Q Q Q Q g26) (aI 2 Q (bU [0,1,2,3,4,5] hm Q Q)))))
  refine aQ 2 Q (IE hm λv27 hm hz=>?_);rw [hz19 _ hz] at hm;exact WX (bP 1 Q (bM [0,1,2,3,4,5] hm Q Q))
 obtain⟨c9,b10⟩:=j;refine WN [1,2,5] Q Q (aM 5 Q (SX Q Q (aU TK Q Q Q) (GE hm λg28 hm=>SX Q Q (aZ Q Q Q Q g28) (GE hm λg29 hm=>SX Q Q (aZ Q Q Q Q g29) (aG 4 Q (WN [2,5] Q Q (cR 7 Q (bG hm Q (λh30 hm=>?_) (λh30 hm=>?_)))))))))
 ·refine aM 1 Q (SX Q Q (kG Q qVU qAW Q Q Q Q) (aH 1 Q (iF (f:=(D.int .i64)) 1 6 6 3 1 Q Q Q (bY 1 [some 14,some 1,some 1,none,none,none,none,none,none] Q Q (aG 3 Q (WN [2,3] Q Q (aQ 2 Q ?_)))))));obtain⟨rfl,rfl⟩:=Prod.mk.inj (Option.some.inj hm);exact⟨_,.mk _ (.cons (.agg (TK.lay Q) Q Q Q Q) (.cons (.tmp 3) .nil)) Q,(.cons (jS (.cons (.d _) Q (.cons (.d _) Q (.cons (.d _) Q (.cons (.d _) Q (.cons (.d _) Q (.cons (.d _) Q (.cons (dA Q) Q (.cons (.d _) Q (.cons (.d _) Q .nil)))))))))) (.refl _) (.cons (.d _) (.refl _) .nil))⟩
 refine cR 8 Q (WN [2,3] Q Q (aQ 1 Q ?_));obtain⟨rfl,rfl⟩:=Prod.mk.inj (Option.some.inj hm);exact⟨_,.mk _ (.cons (.agg (TK.lay Q) Q Q Q Q) (.cons (.tmp 3) .nil)) Q,(.cons (jS (.cons (.d _) Q (.cons (.d _) Q (.cons (.d _) Q (.cons (.d _) Q (.cons (.d _) Q (.cons (.d _) Q (.cons (dA Q) Q (.cons (.d _) Q (.cons (.d _) Q .nil)))))))))) (.refl _) (.cons (.d _) (.refl _) .nil))⟩
theorem eO {p0:Ax} {p1:Int} {p2:Int} {r:Int} (hm:dM p0 p1 p2=some r):RetN TP 91 [p0.enc,.int .i64 p1,.int .i64 p2] (.int .i64 r):=by
 refine .unit (aN (bA Q) func91 Q ntmps91 Q Q (λwX gX=>?_)) Q;unfold dM at hm;exact WN [0,1,2] Q Q (aP 1 Q (cT 0 Q Q Q (aH 7 Q (VE hm λe1 he1 hm=>SX Q Q (bR TK Q Q Q Q he1) (aH 2 Q (GE hm λg2 hm=>SX Q Q (aZ Q Q Q Q g2) (aI 4 Q (bN hm Q))))))))
theorem lP {p0:Ax} {p1:Int} {r:Int} (hm:fR p0 p1=some r):RetN TP 158 [p0.enc,.int .i64 p1] (.int .i64 r):=by
 refine .unit (aN (bA Q) func158 Q ntmps158 Q Q (λwX gX=>?_)) Q;unfold fR at hm;refine WN [0,1] Q Q (aP 1 Q (cT 0 Q Q Q (aG 3 Q (bV follows ?_))));iterate 4 (refine DA [0] TK Q ?_)
 refine fE [0] hm (dJ ·) Q Q Q Q λr1 hm=>GE hm λg2 hm=>DX [0] Q Q (aZ Q Q Q Q g2) (fE [0] hm (eO ·) Q Q Q Q λr3 hm=>?_);refine DT ?_ (by kernel_rfl);exact aI 4 Q (bN hm Q)
theorem cW {p0:Int} {r:Ad} (hm:dD p0=some r):RetD TP 93 [.int .i64 p0] (r.enc):=by
 refine .of (mv:=λ_=>false) (aN (bA Q) func93 Q ntmps93 Q Q (λwX gX=>?_));unfold dD at hm;refine WN [0] Q Q (aP 1 Q (cD 0 Q Q aJ Q (bY 0 [none,none,some 3] Q Q (aH 4 Q (SX Q Q (cJ Q nZ aJ Q Q Q Q) (qPE 4 [none,none,some 3] Q (aI 4 Q ?_)))))));obtain rfl:=OJ hm;exact EndsS.cellR _ TK Q Q Q Q Q (.d _)
theorem sK {p0:Ax} {p1:Int} {p2:Int} {r:Int} (hm:jB p0 p1 p2=some r):RetN TP 213 [p0.enc,.int .i64 p1,.int .i64 p2] (.int .i64 r):=by
 refine .unit (aN (bA Q) func213 Q ntmps213 Q Q (λwX gX=>?_)) Q;unfold jB at hm;refine WN [0,1,2] Q Q (aP 1 Q (cT 0 Q Q Q (aH 7 Q (GE hm λg1 hm=>SX Q Q (aZ Q Q Q Q g1) (aH 3 Q (SX Q Q (aU TK Q Q Q) (GE hm λg2 hm=>SX Q Q (aZ Q Q Q Q g2) (GE hm λg3 hm=>SX Q Q (aZ Q Q Q Q g3) (aH 1 Q (GE hm λg4 hm=>?_))))))))));exact SX Q Q (aZ Q Q Q Q g4) (GE hm λg5 hm=>SX Q Q (aZ Q Q Q Q g5) (aH 1 Q (GE hm λg6 hm=>SX Q Q (aZ Q Q Q Q g6) (aG 3 Q (WN [6] Q Q (aQ 1 Q (bN hm Q)))))))
theorem nD {p0:Ax} {p1:Int} {p2:Int} {r:Int} (hm:fO p0 p1 p2=some r):RetN TP 171 [p0.enc,.int .i64 p1,.int .i64 p2] (.int .i64 r):=by
 refine .unit (aN (bA Q) func171 Q ntmps171 Q Q (λwX gX=>?_)) Q;unfold fO at hm;exact WN [0,1,2] Q Q (aP 1 Q (cT 0 Q Q Q (aH 5 Q (GE hm λg1 hm=>SX Q Q (aZ Q Q Q Q g1) (aH 1 Q (GE hm λg2 hm=>SX Q Q (aZ Q Q Q Q g2) (aI 4 Q (bN hm Q))))))))
theorem eT {p0:(List Ad)} {r:Ad} (hm:eS p0=some r):RetD TP 92 [.sl 3 (p0.map Ad.Aq)] (r.enc):=by
 refine .of (mv:=λ_=>false) (aN (bA Q) func92 Q ntmps92 Q Q (λwX gX=>?_));unfold eS at hm;refine WN [0] Q Q (aP 1 Q (cD 0 Q Q aJ Q (bY 0 [none,none,some 3] Q Q (aH 4 Q (SX Q Q (cJ Q nZ aJ Q Q Q Q) (aI 4 Q ?_))))));obtain rfl:=OJ hm;exact EndsS.cellR _ TK Q Q Q Q Q (.d _)
theorem dK {p0:(List Ad)} {r:Ad} (hm:dL p0=some r):RetD TP 159 [.sl 3 (p0.map Ad.Aq)] (r.enc):=by
 refine .of (mv:=λ_=>false) (aN (bA Q) func159 Q ntmps159 Q Q (λwX gX=>?_));unfold dL at hm;refine WN [0] Q Q (aP 1 Q (cD 0 Q Q aJ Q (bY 0 [none,none,some 3] Q Q (aH 4 Q (SX Q Q (cJ Q nZ aJ Q Q Q Q) (aI 4 Q ?_))))));obtain rfl:=OJ hm;exact EndsS.cellR _ TK Q Q Q Q Q (.d _)
theorem nT {p0:Ax} {p1:Int} {r:Int} (hm:gA p0 p1=some r):RetN TP 163 [p0.enc,.int .i64 p1] (.int .i64 r):=by
 refine .unit (aN (bA Q) func163 Q ntmps163 Q Q (λwX gX=>?_)) Q;unfold gA at hm;exact WN [0,1] Q Q (aP 1 Q (cT 0 Q Q Q (aH 6 Q (c_N hm (lP ·) Q Q Q Q λr1 hm=>GE hm λg2 hm=>SX Q Q (aZ Q Q Q Q g2) (aI 4 Q (bN hm Q))))))
theorem dZ {p0:Ad} {r:Ad} (hm:dV p0=some r):RetD TP 165 [p0.enc] (r.enc):=by
 refine .of (mv:=λ_=>false) (aN (bA Q) func165 Q ntmps165 Q Q (λwX gX=>?_));unfold dV at hm;refine WN [0] Q Q (aP 1 Q (cT 0 Q Q Q (cD 1 Q Q aJ Q (bY 1 [none,none,some 3] Q Q (aH 4 Q (SX Q Q (bJ (f:=Ad.Aq) (xs:=([p0]:List Ad)) [.tmp 3] TK Q Q aJ Q (bF Q (aE (Ad.Ai _) aS)) Q (aO Ad.Ak) Q) (SX Q Q (cJ Q nZ aJ Q Q Q Q) (aI 4 Q ?_))))))));obtain rfl:=OJ hm;exact EndsS.cellR _ TK Q Q Q Q Q (.d _)
theorem bQ {p0:Ax} {p1:Int} {p2:Int} {r:Int} (hm:bI p0 p1 p2=some r):RetN TP 87 [p0.enc,.int .i64 p1,.int .i64 p2] (.int .i64 r):=by
 refine .unit (aN (bA Q) func87 Q ntmps87 Q Q (λwX gX=>?_)) Q;unfold bI at hm;exact WN [0,1,2] Q Q (aP 1 Q (cT 0 Q Q Q (aH 7 Q (GE hm λg1 hm=>SX Q Q (aZ Q Q Q Q g1) (GE hm λg2 hm=>SX Q Q (aZ Q Q Q Q g2) (aH 1 Q (GE hm λg3 hm=>SX Q Q (aZ Q Q Q Q g3) (aI 4 Q (bN hm Q)))))))))
theorem uC (n:Nat) (hn:n<=1000000000) (mv:Nat->Bool):Ret TP 217 [] mv ([.nilsl,.int .i64 n].map .d) (.msl 0 2 0 0) [.flat 148 2 []]:=by
 refine cA (bA Q) func217 Q ntmps217 Q Q (λwX gX=>bW [0,1] (bE Q (bE Q .nil)) (cE Q) (RS (dT _ Q (jO (.inr Q) Q) (TN (bW [0,1] (bE Q (bE Q .nil)) (cE Q) (TQ (RS (dT _ Q (jO (.inl Q) Q) (dT _ Q (qZ Q Q Q Q) (TN (bW [0,1,6] (bE Q (bE Q (bE Q .nil))) (cE Q) (TC _ Q (λhneg=>?_) (λhneg=>?_)))))))))))))
 ·exact absurd (of_decide_eq_true hneg) (by omega)
 refine TS (WT (bW [0,1] (bE Q (bE Q .nil)) (cE Q) (TQ (RS (dT _ Q (jO (.inl Q) Q) (dT _ Q (jO (.inl Q) Q) (dT _ Q (qJA Q qCD Q) (dT _ Q (jO (.inl Q) Q) (dT _ Q (qY Q qCD Q) ?_)))))))));refine dT _ Q (xC (r:=0) Q Q Q Q Q (by first|omega|(constructor<;>omega))) ?_;refine dT _ Q (xC (r:=(n:Int)) Q Q Q Q (by omega) (by first|omega|(constructor<;>omega))) ?_;refine dT _ Q (jO (.inr Q) Q) (TN (bW [0,1] (bE Q (bE Q .nil)) (cE Q) (RS (dT _ Q (jO (.inl Q) Q) (dT _ Q (qZ Q Q Q Q) (TN (bW [0,1,16] (bE Q (bE Q (bE Q .nil))) (cE Q) (TC _ Q (λhpos=>?_) (λhpos=>?_)))))))))
 ·have hpos:0 < n:=by simpa using hpos
  refine TG (dT _ Q (jO (.inl Q) Q) (dT _ Q (jO (.inl Q) Q) (dT _ Q (qJA Q qCD Q) (dT _ Q (qYF Q qCD Q Q Q) (dT _ Q (jO (.inl Q) Q) ?_)))));refine qXM (n:=n) Q qCD Tryz.underlying3 fT Q Q Q hpos (by decide) (by omega) (by omega) ?_;refine dT _ Q (jO (.inl Q) Q) (dT _ Q (qY Q qCD Q) (dT _ Q (qKM 0 2 16 0 n 0 0 Q qCD Q Q Q (zQW _) (Nat.zero_le _)) (dT _ Q (lY (.inr Q) Q) (TN (WT (bW [0] (gT Q .nil) (fD Q (cE Q)) (RS (dT _ Q (lY (.inl Q) Q) (dT _ Q (lY (.inr Q) Q) (TN (bW [4] (gT Q .nil) (fD Q (cE Q)) (TR ?_))))))))))));exact⟨_,[0],res Q,by decide,λi hi=>absurd hi (zQV i),Q,Q⟩
 refine qHK 0 148 2 Q (TS (WT (bW [0] (gT Q .nil) (fD Q (cE Q)) (RS (dT _ Q (lY (.inl Q) Q) (dT _ Q (lY (.inr Q) Q) (TN (bW [4] (gT Q .nil) (fD Q (cE Q)) (TR ?_)))))))));exact⟨_,[0],res Q,by decide,λi hi=>absurd hi (zQV i),Q,Q⟩
theorem sD (xss:List (List Ag)) (hn:xss.length<=1000) (ht:xss.flatten.length<=1000000000) (mv:Nat->Bool):Ret TP 176 [] mv ([.sl 1 (xss.map λl=>.sl 2 (l.map Ag.enc))].map .d) (.msl 0 2 0 xss.flatten.length) [.flat 148 2 (xss.flatten.map Ag.enc)]:=by
 refine cA (bA Q) func176 Q ntmps176 Q Q (λwX gX=>bW [0] (bE Q .nil) (cE Q) (RS (dT _ Q (jO (.inr Q) Q) (TN (bW [0] (bE Q .nil) (cE Q) (RS (dT _ Q (jO (.inr Q) Q) (TN (bW [0,3] (bE Q (bE Q .nil)) (cE Q) (TQ (RS (dT _ Q (jO (.inl Q) Q) ?_))))))))))));refine dT _ Q (by first|exact qKZ Q qFQ Q (by first|exact zQC _|rfl)|exact qY Q qFQ Q) ?_;refine dT _ Q (jO (.inl Q) Q) (TN (bW [0,3,9,10,11] (bE Q (bE Q (bE Q (bE Q (bE Q .nil))))) (cE Q) (TB ?_)));refine sU (λi=>([(3,.d (.int .i64 ((kC xss i).length:Int))),(11,.d (.int .i64 ((i:Nat):Int)))])) (λi=>[]) (λi=>i<=xss.length) (λi=>xss.length - i) [3,11] [0,9,10] [] 0 (by decide) (λi hi=>absurd hi (zQV i)) (Nat.zero_le _) (bE Q (bE Q (bE Q .nil))) Q (by rw [sP];rfl) (cE Q) Q ?_;rintro i hok;refine bW [3,11,0,9,10] (bE Q (bE Q (bE Q (bE Q (bE Q .nil))))) (cE Q) (RS (dT _ Q (qZ Q Q Q Q) (TN (bW [0,3,9,10,11,12] (bE Q (bE Q (bE Q (bE Q (bE Q (bE Q .nil)))))) (cE Q) (TQ (TC _ Q (λhlt=>?_) (λhlt=>?_)))))))
 ·have hlt:i < xss.length:=by simpa using hlt
  obtain⟨x,hx⟩:∃ x,(xss)[i]?=some x:=⟨_,zQR (by first|exact hlt|omega|(simp;omega))⟩;have hs:=mB hx;have hle:=dC xss (i+1);refine TS (WT (bW [0,3,9,10,11] (bE Q (bE Q (bE Q (bE Q (bE Q .nil))))) (cE Q) (TQ (TB (RS (dT _ Q (qAG Q qFQ Q Q (qIW hx)) (dT _ Q (qEQ Q zHL Q Q) (dT _ Q (jO (.inr Q) Q) (TN (bW [0,3,5,9,10,11] (bE Q (bE Q (bE Q (bE Q (bE Q (bE Q .nil)))))) (cE Q) (RS (dT _ Q (jO (.inl Q) Q) (dT _ Q (jO (.inl Q) Q) ?_)))))))))))));refine dT _ Q (by first|exact qKZ Q qCD Q (by first|exact zQC _|rfl)|exact qY Q qCD Q) ?_;refine dT _ Q (xC (r:=((kC xss (i+1)).length:Int)) Q Q Q Q (by rw [hs];simp) (by omega)) ?_;refine dT _ Q (jO (.inr Q) Q) (TN (bW [0,3,9,10,11] (bE Q (bE Q (bE Q (bE Q (bE Q .nil))))) (cE Q) (RS (dT _ Q (jO (.inl Q) Q) (dT _ Q (qZ Q Q Q Q) (TN (bW [0,3,9,10,11,20] (bE Q (bE Q (bE Q (bE Q (bE Q (bE Q .nil)))))) (cE Q) (TC _ Q (λhneg=>?_) (λhneg=>?_)))))))))
  ·exact absurd (of_decide_eq_true hneg) (by omega)
  refine TS (WK (WT (bW [0,3,9,10,11] (bE Q (bE Q (bE Q (bE Q (bE Q .nil))))) (cE Q) (TG ?_))));refine dT _ Q (xD Q Q Q Q (by first|omega|(constructor<;>omega))) ?_;refine dT _ Q (jO (.inl Q) Q) (TN (WT ?_));exact⟨(i+1),[],by decide,(λi hi=>absurd hi (zQV i)),(by omega),(by omega),Q⟩
 have hge:¬ i < xss.length:=by simpa using hlt
 have hi:i=xss.length:=by omega
 refine zD (WX (WX (WH (WT (bW [0,3] (bE Q (bE Q .nil)) (cE Q) (RS (dT _ Q (jO (.inl Q) Q) ?_)))))));refine qIO Q Q Q (uC _ (by have:=dC xss i;omega) (λ_=>false)) Q Q ?_;refine dT _ Q (lY (.inr Q) Q) (TN (bW [0,6] (bE Q (gT Q .nil)) (fD Q (cE Q)) (TQ (RS (dT _ Q (jO (.inl Q) Q) ?_)))));refine dT _ Q (by first|exact qKZ Q qFQ Q (by first|exact zQC _|rfl)|exact qY Q qFQ Q) ?_;refine dT _ Q (jO (.inl Q) Q) (TN (bW [6,25,26,27] (gT Q (bE Q (bE Q (bE Q .nil)))) (fD Q (cE Q)) (TB ?_)));refine sU (λi=>([(6,.msl 0 2 0 (kC xss i).length),(27,.d (.int .i64 ((i:Nat):Int)))])) (λi=>([(0,.flat 148 2 ((kC xss i).map Ag.enc))])) (λi=>i<=xss.length) (λi=>xss.length - i) [6,27] [25,26] [0] 0 (by decide) (λi hi=>absurd hi (zQV i)) (Nat.zero_le _) (bE Q (bE Q .nil)) Q (by rw [sP];rfl) (fD Q (cE Q)) (by rw [sP];rfl) ?_;rintro i hok;refine bW [6,27,25,26] (gT Q (bE Q (bE Q (bE Q .nil)))) (fD Q (cE Q)) (RS (dT _ Q (qZ Q Q Q Q) (TN (bW [6,25,26,27,28] (gT Q (bE Q (bE Q (bE Q (bE Q .nil))))) (fD Q (cE Q)) (TQ (TC _ Q (λhlt=>?_) (λhlt=>?_)))))))
 ·have hlt:i < xss.length:=by simpa using hlt
  obtain⟨x,hx⟩:∃ x,(xss)[i]?=some x:=⟨_,zQR (by first|exact hlt|omega|(simp;omega))⟩;have hs:=mB hx;have hle:=dC xss (i+1);have hsl:(kC xss (i+1)).length=(kC xss i).length+x.length:=by rw [hs];simp
  refine TS (WT (bW [6,25,26,27] (gT Q (bE Q (bE Q (bE Q .nil)))) (fD Q (cE Q)) (TQ (TB (RS (dT _ Q (qAG Q qFQ Q Q (qIW hx)) (dT _ Q (qEQ Q zHL Q Q) (dT _ Q (jO (.inr Q) Q) (TN (bW [6,8,25,26,27] (gT Q (bE Q (bE Q (bE Q (bE Q .nil))))) (fD Q (cE Q)) (TG (dT _ Q (lY (.inl Q) Q) (dT _ Q (jO (.inl Q) Q) ?_)))))))))))));refine qJW (m:=(kC xss (i+1)).length) (ds:=x.map Ag.enc) (es':=(kC xss (i+1)).map Ag.enc) Q qCD fT Q Q Q (by simp) (λh=>absurd h (zQV _)) Q ⟨Q,(by first|rfl|(simp [List.map_take,List.map_drop];done)|(rw [<- List.map_drop,List.take_of_length_le (by simp)]))⟩ (by rw [hs];simp) (by simp;omega) (by omega) (by omega) Q Q ?_;refine dT _ Q (lY (.inr Q) Q) (TN (WK (WT (bW [6,25,26,27] (gT Q (bE Q (bE Q (bE Q .nil)))) (fD Q (cE Q)) (TG ?_)))));refine dT _ Q (xD Q Q Q Q (by first|omega|(constructor<;>omega))) ?_;refine dT _ Q (jO (.inl Q) Q) (TN (WT ?_));exact⟨(i+1),[0],by decide,(λi hi=>absurd hi (zQV i)),(by omega),(by omega),Q⟩
 have hge:¬ i < xss.length:=by simpa using hlt
 have hi:i=xss.length:=by omega
 have hall:=qUA hge;refine zD (WX (WX (WH (WT (bW [6] (gT Q .nil) (fD Q (cE Q)) (RS (dT _ Q (lY (.inl Q) Q) (dT _ Q (lY (.inr Q) Q) (TN (bW [2] (gT Q .nil) (fD Q (cE Q)) (TR ?_)))))))))));rw [hall];exact⟨_,[0],res Q,by decide,λi hi=>absurd hi (zQV i),Q,Q⟩
theorem uB {p0:List (List Ag)} {r:List Ag} (hm:kY p0=some r):Ret TP 176 [] (λ_=>false) ([.sl 1 (p0.map (λl=>D.sl 2 (l.map Ag.enc)))].map .d) (.msl 0 2 0 r.length) [.flat 148 2 (r.map Ag.enc)]:=by
 unfold kY at hm;refine GE hm λg hm=>?_;obtain rfl:=OJ hm;exact sD p0 g.1 g.2 (λ_=>false)
theorem yX {p0:Int} {r:Bool} (hm:oF p0=some r):RetN TP 220 [.int .i64 p0] (.bool (r)):=by
 refine .unit (aN (bA Q) func220 Q ntmps220 Q Q (λwX gX=>?_)) Q;unfold oF at hm;exact WN [0] Q Q (r_px 12 Q (bN hm Q))
theorem uY {p0:Int} {p1:Int} {r:Int} (hm:lC p0 p1=some r):RetN TP 180 [.int .i64 p0,.int .i64 p1] (.int .i64 r):=by
 refine .unit (aN (bA Q) func180 Q ntmps180 Q Q (λwX gX=>?_)) Q;unfold lC at hm;refine WN [0,1] Q Q (aP 6 Q (c_N hm (yX ·) Q Q Q Q λr1 hm=>aH 5 Q (c_N hm (yX ·) Q Q Q Q λr2 hm=>aG 8 Q (cP hm Q (λh3 hm=>?_) (λh3 hm=>?_)))))
 ·refine cR 5 Q (cP hm Q (λh4 hm=>?_) (λh4 hm=>?_))
  ·exact aQ 7 Q (bN hm Q)
  exact aQ 8 Q (bN hm Q)
 refine cR 7 Q (cP hm Q (λh5 hm=>?_) (λh5 hm=>?_))
 ·exact aQ 6 Q (bN hm Q)
 refine cR 9 Q (bG hm Q (λh6 hm=>?_) (λh6 hm=>?_))
 ·exact aQ 6 Q (bN hm Q)
 refine cR 9 Q (WN [19] Q Q (bG hm Q (λh7 hm=>?_) (λh7 hm=>?_)))
 ·exact aQ 6 Q (bN hm Q)
 exact aQ 7 Q (bN hm Q)
theorem qQY {p0:(List Int)} {r:Int} (hm:tV p0=some r):RetN TP 179 [.sl 1 (p0.map (D.int .i64))] (.int .i64 r):=by
 refine .unit (aN (bA Q) func179 Q ntmps179 Q Q (λwX gX=>?_)) Q;unfold tV at hm;refine WN [0] Q Q (bK 8 Q (cI hm (λ_=>[]) (λ_=>[]) [] [3] Q (λz1 hm hz1=>?_) (λj hm=>?_)))
 ·refine aP 2 Q (SX Q Q (aU TK Q Q Q) (aG 4 Q (aT hm (λx3=>([(8,.d (.int .i64 x3))])) (λx3=>[]) [8] [3,6,7] [] Q k0 Q Q Q Q Q (λx3 z4 hm hz4=>WN [3,6,7,8] Q Q (bK 5 Q (bG hm Q (λh5 hm=>?_) (λh5 hm=>?_)))))))
  ·refine aM 5 Q (VE hm λe6 he6 hm=>SX Q Q (bR TK Q Q Q Q he6) (aG 10 Q (qD hm Q (λh7 hm=>?_) (λh7 hm=>?_))))
   ·refine aQ 8 Q (IE hm λv8 hm hz=>?_);rw [hz4 _ hz] at hm;refine WR (bP 1 Q (IE hm λv9 hm hz=>?_));rw [hz1 _ hz] at hm;exact WR (bN hm Q)
   exact aM 4 Q (GE hm λg10 hm=>SX Q Q (aZ Q Q Q Q g10) (aI 2 Q (bU [] hm Q Q)))
  refine aQ 2 Q (IE hm λv11 hm hz=>?_);rw [hz4 _ hz] at hm;exact WX (bP 1 Q (bU [] hm Q Q))
 exact WN [3] Q Q (aQ 6 Q (bN hm Q))
theorem qBY {p0:Ag} {p1:Ag} {r:Int} (hm:eK p0 p1=some r):RetN TP 178 [p0.enc,p1.enc] (.int .i64 r):=by
 refine .unit (aN (bA Q) func178 Q ntmps178 Q Q (λwX gX=>?_)) Q;unfold eK at hm;refine WN [0,1] Q Q (aP 1 Q (cT 0 Q Q Q (cT 1 Q Q Q (aG 3 Q (bV follows ?_)))));iterate 4 (refine DA [0,1] TK Q ?_)
 refine fE [0,1] hm (uY ·) Q Q Q Q λr1 hm=>?_;iterate 4 (refine DA [0,1] TK Q ?_)
 refine fE [0,1] hm (uY ·) Q Q Q Q λr2 hm=>DX [0,1] Q Q (cM [.tmp 9,.tmp 14] TK Q Q gR Q Q Q Q Q) (fE [0,1] hm (qQY ·) Q Q Q Q λr3 hm=>?_);refine DT ?_ (by kernel_rfl);exact aG 3 Q (WN [4] Q Q (aQ 1 Q (bN hm Q)))
theorem kT {p0:Aj} {r:(List Ag)} (hm:gC p0=some r):RetD TP 102 [p0.enc] (.sl 2 (r.map Ag.enc)):=by
 refine .of (mv:=λ_=>false) (aN (bA Q) func102 Q ntmps102 Q Q (λwX gX=>?_));unfold gC at hm;refine WN [0] Q Q (aP 1 Q (cT 0 Q Q Q (aH 10 Q (SX Q Q (cM [.tmp 8,.tmp 10,.tmp 12] TK Q Q zero85 Q Q Q Q Q) (BE hm λr1 hr1 hm=>qIO Q Q Q (uB hr1) Q Q (zBL 14 (.msl 1 2 0 r1.length) Q Q (aH 5 Q (GE hm λg2 hm=>?_))))))));refine zEN [1] Q Q Q (by simp) Q Q Q (uA pD Q (λ_ _ _ h=>(qBY h).retD) r1 g2) Q Q ?_;refine qNY 3 (uK eK r1).length Q (xJ _).symm (qNY 15 (uK eK r1).length Q (xJ _).symm (aH 3 Q (fM (f:=Ag.enc) 2 148 2 Q Q Q (aG 2 Q (aL hm (λb3=>([(4,.msl 2 2 0 b3.length)])) (λb3=>([(2,.flat 148 2 (b3.map Ag.enc))])) [4] [] Q (λz4 hm=>?_) (λb3 hm=>?_))))))
 ·refine bK 7 Q (aT hm (λ(x8,b9)=>([(4,.msl 2 2 0 b9.length),(19,.d (.int .i64 x8))])) (λ(x8,b9)=>([(2,.flat 148 2 (b9.map Ag.enc))])) [4,19] [3,17,18] [0,1,2] Q k0 Q Q Q Q Q (λs z10 hm hz10=>?_));obtain⟨x8,b9⟩:=s;refine WN [3,4,17,18,19] Q Q (bK 5 Q (bG hm Q (λh11 hm=>?_) (λh11 hm=>?_)))
  ·refine aM 6 Q (VE hm λe12 he12 hm=>SX Q Q (sS TK Q Q Q Q he12 Q) (SX Q Q (vW TK Q Q Q Q he12.2 Q) (cD 3 Q Q fT Q (aG 4 Q (aL hm (λx13=>([(34,.d (.bool (x13)))])) (λx13=>[]) [34] [3,4,6,17,18,19] Q (λz14 hm=>?_) (λx13 hm=>?_))))))
   ·refine iW follows ?_;iterate 2 (refine DA [0,1,2,3] TK Q ?_)
    refine d_b [0,1,2,3] TK Q (λq15 hq15=>?_);cases q15
    ·replace hm:=JF hq15 hm;iterate 3 (refine DA [0,1,2,3] TK Q ?_)
     refine GE hm λg16 hm=>DX [0,1,2,3] Q Q (aZ Q Q Q Q g16) (VE hm λe17 he17 hm=>DX [0,1,2,3] Q Q (sS TK Q Q Q Q he17 Q) (DX [0,1,2,3] Q Q (vW TK Q Q Q Q he17.2 Q) (GE hm λg18 hm=>DX [0,1,2,3] Q Q (qWW Q Q Q g18.1 g18.2) (DA [0,1,2,3] TK Q ?_))));refine DT ?_ (by kernel_rfl);exact aI 1 Q (bM [0,1,2,3] hm Q Q)
    replace hm:=JT hq15 hm;iterate 8 (refine DA [0,1,2,3] TK Q ?_)
    refine DT ?_ (by kernel_rfl);exact aI 1 Q (bM [0,1,2,3] hm Q Q)
   refine WN [3,4,6,17,18,19,34] Q Q (cP hm Q (λh20 hm=>?_) (λh20 hm=>?_))
   ·exact aM 3 Q (SX Q Q (cM [.tmp 36] TK Q Q fT Q Q Q Q Q) (GE hm λg21 hm=>cF (f:=Ag.enc) ([e12]:List Ag) TK Q Q fT Q Q Q Q Q (λh=>absurd h (zQV _)) Q bZ g21 Q Q (aH 5 Q (GE hm λg22 hm=>SX Q Q (aZ Q Q Q Q g22) (aI 2 Q (bU [0,1,2] hm Q Q))))))
   exact aM 4 Q (GE hm λg23 hm=>SX Q Q (aZ Q Q Q Q g23) (aI 2 Q (bU [0,1,2] hm Q Q)))
  refine aQ 2 Q (IE hm λv24 hm hz=>?_);rw [hz10 _ hz] at hm;exact WX (bP 1 Q (bM [0,1,2] hm Q Q))
 refine WN [4] Q Q (aQ 6 Q ?_);obtain rfl:=OJ hm;exact EndsS.one _ Q (dA Q) (.refl _)
theorem tT {p0:Ax} {p1:Int} {p2:Int} {r:Int} (hm:jP p0 p1 p2=some r):RetN TP 214 [p0.enc,.int .i64 p1,.int .i64 p2] (.int .i64 r):=by
 refine .unit (aN (bA Q) func214 Q ntmps214 Q Q (λwX gX=>?_)) Q;unfold jP at hm;refine WN [0,1,2] Q Q (aP 1 Q (cT 0 Q Q Q (aH 7 Q (GE hm λg1 hm=>SX Q Q (aZ Q Q Q Q g1) (aH 1 Q (GE hm λg2 hm=>SX Q Q (aZ Q Q Q Q g2) (GE hm λg3 hm=>SX Q Q (aZ Q Q Q Q g3) (aH 1 Q (GE hm λg4 hm=>SX Q Q (aZ Q Q Q Q g4) ?_)))))))));exact aI 4 Q (bN hm Q)
theorem oP {p0:Aj} {p1:Aj} {r:Bool} (hm:gO p0 p1=some r):RetN TP 100 [p0.enc,p1.enc] (.bool (r)):=by
 refine .unit (aN (bA Q) func100 Q ntmps100 Q Q (λwX gX=>?_)) Q;unfold gO at hm;refine WN [0,1] Q Q (aP 1 Q (cT 0 Q Q Q (cT 1 Q Q Q (aG 3 Q (iC [(4,.d (.bool (((decide ((0:Int)<=p0.exit))&&(decide (p1.entry=p0.exit))))))] [4] [] Q ?_ ?_)))))
 ·refine aP 4 Q (SB TK Q (λq1 hq1=>?_));cases q1
  ·refine aI 8 Q ?_;exact⟨[0,1],Q,k0,bX (aV (aX (by first|(simp [hq1];done)|(simp only [hq1];simp))) Q) Q⟩
  refine aI 8 Q ?_;exact⟨[0,1],Q,k0,bX (aV (aX (by first|(simp [hq1];done)|(simp only [hq1];simp))) Q) Q⟩
 exact WN [4] Q Q (aQ 1 Q (bN hm Q))
theorem mZ {p0:(List Int)} {p1:Int} {r:Bool} (hm:fI p0 p1=some r):RetN TP 235 [.sl 1 (p0.map (D.int .i64)),.int .i64 p1] (.bool (r)):=by
 refine .unit (aN (bA Q) func235 Q ntmps235 Q Q (λwX gX=>?_)) Q;unfold fI at hm;exact WN [0,1] Q Q (aP 7 Q (c_N hm (gD ·) Q Q Q Q λr1 hm=>aI 5 Q (bN hm Q)))
theorem xL {p0:(List Ag)} {p1:Ag} {r:Int} (hm:jT p0 p1=some r):RetN TP 221 [.sl 2 (p0.map Ag.enc),p1.enc] (.int .i64 r):=by
 refine .unit (aN (bA Q) func221 Q ntmps221 Q Q (λwX gX=>?_)) Q;unfold jT at hm;refine WN [0,1] Q Q (aP 1 Q (cT 0 Q Q Q (aG 3 Q (cI hm (λ_=>[]) (λ_=>[]) [] [] Q (λz1 hm hz1=>?_) (λj hm=>?_)))))
 ·refine aP 2 Q (SX Q Q (aU TK Q Q Q) (aG 4 Q (aT hm (λx3=>([(8,.d (.int .i64 x3))])) (λx3=>[]) [8] [0,3,7] [0] Q k0 Q Q Q Q Q (λx3 z4 hm hz4=>WN [0,3,7,8] Q Q (bK 5 Q (bG hm Q (λh5 hm=>?_) (λh5 hm=>?_)))))))
  ·refine cR 9 Q (bV follows ?_);iterate 3 (refine DA [0] TK Q ?_)
   refine VE hm λe6 he6 hm=>DX [0] Q Q (bR TK Q Q Q Q he6) (DA [0] TK Q (GE hm λg7 hm=>DX [0] Q Q (qDS Q Q Q g7.1 g7.2) ?_));refine DT ?_ (by kernel_rfl);refine aG 2 Q (bG hm Q (λh9 hm=>?_) (λh9 hm=>?_))
   ·refine aQ 8 Q (IE hm λv10 hm hz=>?_);rw [hz4 _ hz] at hm;refine WR (bP 1 Q (IE hm λv11 hm hz=>?_));rw [hz1 _ hz] at hm;exact WR (bN hm Q)
   exact aM 4 Q (GE hm λg12 hm=>SX Q Q (aZ Q Q Q Q g12) (aI 2 Q (bU [0] hm Q Q)))
  refine aQ 2 Q (IE hm λv13 hm hz=>?_);rw [hz4 _ hz] at hm;exact WX (bP 1 Q (bU [0] hm Q Q))
 exact WN [] Q Q (aQ 5 Q (bN hm Q))
theorem gS {p0:(List Ag)} {p1:Ag} {r:Bool} (hm:dF p0 p1=some r):RetN TP 181 [.sl 2 (p0.map Ag.enc),p1.enc] (.bool (r)):=by
 refine .unit (aN (bA Q) func181 Q ntmps181 Q Q (λwX gX=>?_)) Q;unfold dF at hm;exact WN [0,1] Q Q (aP 1 Q (cT 0 Q Q Q (aH 6 Q (c_N hm (xL ·) Q Q Q Q λr1 hm=>aI 5 Q (bN hm Q)))))
theorem mC {p0:Ax} {p1:Int} {r:Int} (hm:fX p0 p1=some r):RetN TP 89 [p0.enc,.int .i64 p1] (.int .i64 r):=by
 refine .unit (aN (bA Q) func89 Q ntmps89 Q Q (λwX gX=>?_)) Q;unfold fX at hm;exact WN [0,1] Q Q (aP 1 Q (cT 0 Q Q Q (aH 7 Q (GE hm λg1 hm=>SX Q Q (aZ Q Q Q Q g1) (aI 4 Q (bN hm Q))))))
theorem sX {p0:Int} {r:BA} (hm:lF p0=some r):RetN TP 174 [.int .i64 p0] (.str r):=by
 unfold lF at hm;refine GE hm λh hm=>?_;obtain rfl:=OJ hm;obtain⟨i,rfl⟩:=Int.eq_ofNat_of_zero_le h.1;exact qNO i (by omega)
theorem dY {p0:Int} {p1:(List BA)} {p2:(List BA)} {r:(List BA)} (hm:cK p0 p1 p2=some r):Ret TP 173 [.box 51 [.msl 1 1 0 p2.length],.flat 9 1 (p2.map D.str)] (λj=>Nat.beq j 1) [.d (.int .i64 p0),.d (.sl 1 (p1.map D.str)),.mptr 0 0 0 0] (.tup []) [.box 51 [.msl 1 1 0 r.length],.flat 9 1 (r.map D.str)]:=by
 refine cA (bA Q) func173 Q ntmps173 Q Q (λwX gX=>?_);unfold cK at hm;refine WN [0,1,2] Q Q (aP 2 Q (SX Q Q (aU TK Q Q Q) (aG 4 Q (aT hm (λ(x4,b5)=>([(9,.d (.int .i64 x4))])) (λ(x4,b5)=>([(0,.box 51 [.msl 1 1 0 b5.length]),(1,.flat 9 1 (b5.map D.str))])) [9] [0,2,7,8] [0,1] Q (kB Q) Q Q Q Q Q (λs z6 hm hz6=>?_)))));obtain⟨x4,b5⟩:=s;refine WN [0,2,7,8,9] Q Q (bK 5 Q (bG hm Q (λh7 hm=>?_) (λh7 hm=>?_)))
 ·refine aM 5 Q (VE hm λe8 he8 hm=>SX Q Q (bR TK Q Q Q Q he8) (aG 4 Q (cU follows ?_)));iterate 2 (refine DA [0,1] TK Q ?_)
  refine GE hm λg9 hm=>DX [0,1] Q Q (uH Q Q Q g9) (DA [0,1] TK Q (fE [0,1] hm (sX ·) Q Q Q Q λr10 hm=>GE hm λg11 hm=>DX [0,1] Q Q (uH Q Q Q g11) (DX [0,1] Q Q (cM [.tmp 18] TK Q Q eQ Q Q Q Q Q) ?_)));refine DT ?_ (by kernel_rfl);exact GE hm λg12 hm=>cF (f:=D.str) ([((e8++(⟨#[46]⟩:BA))++r10)]:List BA) TK Q Q eQ Q Q Q Q Q (λ_=>Q) Q bZ g12 Q Q (aH 5 Q (GE hm λg13 hm=>SX Q Q (aZ Q Q Q Q g13) (aI 2 Q (e_l [0,1] hm Q (kB Q) Q))))
 refine aQ 2 Q (IE hm λv14 hm hz=>?_);rw [hz6 _ hz] at hm;refine WX (bP 1 Q ?_);obtain rfl:=OJ hm;exact⟨_,[0,1],res Q,by decide,(kB Q),Q,Q⟩
theorem uG {p0:Ax} {r:(List BA)} (hm:iJ p0=some r):RetD TP 94 [p0.enc] (.sl 1 (r.map D.str)):=by
 refine .of (mv:=λ_=>false) (aN (bA Q) func94 Q ntmps94 Q Q (λwX gX=>?_));unfold iJ at hm;refine WN [0] Q Q (aP 1 Q (cT 0 Q Q Q (aH 4 Q (cD 1 Q Q zero51 Q (iF (f:=D.str) 1 0 2 9 1 Q Q Q (aH 3 Q (SX Q Q (qHM Q) (aG 3 Q (aL hm (λb1=>[]) (λb1=>([(1,.box 51 [.msl 2 1 0 b1.length]),(2,.flat 9 1 (b1.map D.str))])) [] [1,3,4] Q (λz2 hm=>?_) (λb1 hm=>?_))))))))))
 ·refine bK 8 Q (aT hm (λ(x6,b7)=>([(16,.d (.int .i64 x6))])) (λ(x6,b7)=>([(1,.box 51 [.msl 2 1 0 b7.length]),(2,.flat 9 1 (b7.map D.str))])) [16] [1,3,4,15] [0,1,2] Q k0 Q Q Q Q Q (λs z8 hm hz8=>?_));obtain⟨x6,b7⟩:=s;refine WN [1,3,4,15,16] Q Q (bK 5 Q (bG hm Q (λh9 hm=>?_) (λh9 hm=>?_)))
  ·refine aM 12 Q (SX Q Q (cM [.const (Value.string ⟨#[102,114,101,101]⟩),.const (Value.string ⟨#[111,112,101,110]⟩)] TK Q Q eQ Q Q Q Q Q) (BE hm λr10 hr10 hm=>?_));refine dE [1,2] (λj=>Nat.beq j 1) Q Q Q (by decide) Q Q Q Q (dY hr10) Q Q Q ?_;exact aH 4 Q (GE hm λg11 hm=>SX Q Q (aZ Q Q Q Q g11) (aI 2 Q (bU [0,1,2] hm Q Q)))
  refine aQ 2 Q (IE hm λv12 hm hz=>?_);rw [hz8 _ hz] at hm;exact WX (bP 1 Q (bM [0,1,2] hm Q Q))
 refine WN [1,3,4] Q Q (aL hm (λb13=>[]) (λb13=>([(1,.box 51 [.msl 2 1 0 b13.length]),(2,.flat 9 1 (b13.map D.str))])) [] [1,3,4] Q (λz14 hm=>?_) (λb13 hm=>?_))
 ·refine aP 4 Q (SX Q Q (aU TK Q Q Q) (aG 4 Q (aT hm (λ(x18,b19)=>([(28,.d (.int .i64 x18))])) (λ(x18,b19)=>([(1,.box 51 [.msl 2 1 0 b19.length]),(2,.flat 9 1 (b19.map D.str))])) [28] [1,3,4,27] [0,1,2] Q k0 Q Q Q Q Q (λs z20 hm hz20=>?_))));obtain⟨x18,b19⟩:=s;refine WN [1,3,4,27,28] Q Q (bK 5 Q (bG hm Q (λh21 hm=>?_) (λh21 hm=>?_)))
  ·refine aM 12 Q (SX Q Q (cM [.const (Value.string ⟨#[110,111,114,109,97,108]⟩),.const (Value.string ⟨#[114,101,118,101,114,115,101]⟩)] TK Q Q eQ Q Q Q Q Q) (BE hm λr22 hr22 hm=>?_));refine dE [1,2] (λj=>Nat.beq j 1) Q Q Q (by decide) Q Q Q Q (dY hr22) Q Q Q ?_;exact aH 4 Q (GE hm λg23 hm=>SX Q Q (aZ Q Q Q Q g23) (aI 2 Q (bU [0,1,2] hm Q Q)))
  refine aQ 2 Q (IE hm λv24 hm hz=>?_);rw [hz20 _ hz] at hm;exact WX (bP 1 Q (bM [0,1,2] hm Q Q))
 refine WN [1,3,4] Q Q (aL hm (λb25=>[]) (λb25=>([(1,.box 51 [.msl 2 1 0 b25.length]),(2,.flat 9 1 (b25.map D.str))])) [] [1,3,4] Q (λz26 hm=>?_) (λb25 hm=>?_))
 ·refine aP 4 Q (SX Q Q (aU TK Q Q Q) (aG 4 Q (aT hm (λ(x30,b31)=>([(40,.d (.int .i64 x30))])) (λ(x30,b31)=>([(1,.box 51 [.msl 2 1 0 b31.length]),(2,.flat 9 1 (b31.map D.str))])) [40] [1,3,4,39] [0,1,2] Q k0 Q Q Q Q Q (λs z32 hm hz32=>?_))));obtain⟨x30,b31⟩:=s;refine WN [1,3,4,39,40] Q Q (bK 5 Q (bG hm Q (λh33 hm=>?_) (λh33 hm=>?_)))
  ·refine aM 12 Q (SX Q Q (cM [.const (Value.string ⟨#[117,110,99,108,97,105,109,101,100]⟩),.const (Value.string ⟨#[112,97,115,115,101,100]⟩),.const (Value.string ⟨#[99,97,108,108]⟩),.const (Value.string ⟨#[99,97,110,99,101,108]⟩)] TK Q Q eQ Q Q Q Q Q) (BE hm λr34 hr34 hm=>?_));refine dE [1,2] (λj=>Nat.beq j 1) Q Q Q (by decide) Q Q Q Q (dY hr34) Q Q Q ?_;exact aH 4 Q (GE hm λg35 hm=>SX Q Q (aZ Q Q Q Q g35) (aI 2 Q (bU [0,1,2] hm Q Q)))
  refine aQ 2 Q (IE hm λv36 hm hz=>?_);rw [hz32 _ hz] at hm;exact WX (bP 1 Q (bM [0,1,2] hm Q Q))
 refine WN [1,3,4] Q Q (aL hm (λb37=>[]) (λb37=>([(1,.box 51 [.msl 2 1 0 b37.length]),(2,.flat 9 1 (b37.map D.str))])) [] [1,3,4] Q (λz38 hm=>?_) (λb37 hm=>?_))
 ·refine aP 4 Q (SX Q Q (aU TK Q Q Q) (aG 4 Q (aT hm (λ(x42,b43)=>([(52,.d (.int .i64 x42))])) (λ(x42,b43)=>([(1,.box 51 [.msl 2 1 0 b43.length]),(2,.flat 9 1 (b43.map D.str))])) [52] [1,3,4,51] [0,1,2] Q k0 Q Q Q Q Q (λs z44 hm hz44=>?_))));obtain⟨x42,b43⟩:=s;refine WN [1,3,4,51,52] Q Q (bK 5 Q (bG hm Q (λh45 hm=>?_) (λh45 hm=>?_)))
  ·refine aM 12 Q (SX Q Q (cM [.const (Value.string ⟨#[108,105,101]⟩)] TK Q Q eQ Q Q Q Q Q) (BE hm λr46 hr46 hm=>?_));refine dE [1,2] (λj=>Nat.beq j 1) Q Q Q (by decide) Q Q Q Q (dY hr46) Q Q Q ?_;exact aH 4 Q (GE hm λg47 hm=>SX Q Q (aZ Q Q Q Q g47) (aI 2 Q (bU [0,1,2] hm Q Q)))
  refine aQ 2 Q (IE hm λv48 hm hz=>?_);rw [hz44 _ hz] at hm;exact WX (bP 1 Q (bM [0,1,2] hm Q Q))
 refine WN [1,3,4] Q Q (aL hm (λb49=>[]) (λb49=>([(1,.box 51 [.msl 2 1 0 b49.length]),(2,.flat 9 1 (b49.map D.str))])) [] [1,3,4] Q (λz50 hm=>?_) (λb49 hm=>?_))
 ·refine aP 4 Q (SX Q Q (aU TK Q Q Q) (aG 4 Q (aT hm (λ(x54,b55)=>([(64,.d (.int .i64 x54))])) (λ(x54,b55)=>([(1,.box 51 [.msl 2 1 0 b55.length]),(2,.flat 9 1 (b55.map D.str))])) [64] [1,3,4,63] [0,1,2] Q k0 Q Q Q Q Q (λs z56 hm hz56=>?_))));obtain⟨x54,b55⟩:=s;refine WN [1,3,4,63,64] Q Q (bK 5 Q (bG hm Q (λh57 hm=>?_) (λh57 hm=>?_)))
  ·refine cR 2 Q (aL hm (λb58=>[]) (λb58=>([(1,.box 51 [.msl 2 1 0 b58.length]),(2,.flat 9 1 (b58.map D.str))])) [] [1,3,4,63,64] Q (λz59 hm=>?_) (λb58 hm=>?_))
   ·refine aP 9 Q (SX Q Q (cM [.const (Value.string ⟨#[115,101,116]⟩),.const (Value.string ⟨#[99,108,101,97,114]⟩),.const (Value.string ⟨#[117,115,101,100]⟩),.const (Value.string ⟨#[104,101,108,100]⟩)] TK Q Q eQ Q Q Q Q Q) (BE hm λr60 hr60 hm=>?_));refine dE [1,2] (λj=>Nat.beq j 1) Q Q Q (by decide) Q Q Q Q (dY hr60) Q Q Q ?_;refine aG 2 Q (aL hm (λb61=>[]) (λb61=>([(1,.box 51 [.msl 2 1 0 b61.length]),(2,.flat 9 1 (b61.map D.str))])) [] [1,3,4,9,63,64] Q (λz62 hm=>?_) (λb61 hm=>?_))
    ·refine aP 3 Q (c_N hm (dJ ·) Q Q Q Q λr63 hm=>aG 4 Q (aT hm (λ(x67,b68)=>([(74,.d (.int .i64 x67))])) (λ(x67,b68)=>([(1,.box 51 [.msl 2 1 0 b68.length]),(2,.flat 9 1 (b68.map D.str))])) [74] [1,3,4,9,63,64,73] [0,1,2] Q k0 Q Q Q Q Q (λs z69 hm hz69=>?_)));obtain⟨x67,b68⟩:=s;refine WN [1,3,4,9,63,64,73,74] Q Q (bK 5 Q (bG hm Q (λh70 hm=>?_) (λh70 hm=>?_)))
     ·refine aM 13 Q (c_N hm (sX ·) Q Q Q Q λr71 hm=>GE hm λg72 hm=>SX Q Q (uH Q Q Q g72) (SX Q Q (cM [.tmp 81] TK Q Q eQ Q Q Q Q Q) (BE hm λr73 hr73 hm=>?_)));refine dE [1,2] (λj=>Nat.beq j 1) Q Q Q (by decide) Q Q Q Q (dY hr73) Q Q Q ?_;exact aH 4 Q (GE hm λg74 hm=>SX Q Q (aZ Q Q Q Q g74) (aI 2 Q (bU [0,1,2] hm Q Q)))
     refine aQ 2 Q (IE hm λv75 hm hz=>?_);rw [hz69 _ hz] at hm;exact WX (bP 1 Q (bM [0,1,2] hm Q Q))
    refine WN [1,3,4,9,63,64] Q Q (aM 3 Q (SX Q Q (cM [.const (Value.string ⟨#[119,97,105,116]⟩),.const (Value.string ⟨#[115,116,97,110,100]⟩)] TK Q Q eQ Q Q Q Q Q) (BE hm λr76 hr76 hm=>?_)));refine dE [1,2] (λj=>Nat.beq j 1) Q Q Q (by decide) Q Q Q Q (dY hr76) Q Q Q ?_;exact aI 2 Q (bM [0,1,2] hm Q Q)
   exact WN [1,3,4,63,64] Q Q (aM 1 Q (GE hm λg77 hm=>SX Q Q (aZ Q Q Q Q g77) (aI 2 Q (bU [0,1,2] hm Q Q))))
  refine aQ 2 Q (IE hm λv78 hm hz=>?_);rw [hz56 _ hz] at hm;exact WX (bP 1 Q (bM [0,1,2] hm Q Q))
 refine WN [1,3,4] Q Q (aL hm (λb79=>[]) (λb79=>([(1,.box 51 [.msl 2 1 0 b79.length]),(2,.flat 9 1 (b79.map D.str))])) [] [3] Q (λz80 hm=>?_) (λb79 hm=>?_))
 ·refine aP 4 Q (SX Q Q (aU TK Q Q Q) (aG 4 Q (aT hm (λ(x84,b85)=>([(94,.d (.int .i64 x84))])) (λ(x84,b85)=>([(1,.box 51 [.msl 2 1 0 b85.length]),(2,.flat 9 1 (b85.map D.str))])) [94] [3,4,93] [0,1,2] Q k0 Q Q Q Q Q (λs z86 hm hz86=>?_))));obtain⟨x84,b85⟩:=s;refine WN [3,4,93,94] Q Q (bK 5 Q (bG hm Q (λh87 hm=>?_) (λh87 hm=>?_)))
  ·refine aM 12 Q (SX Q Q (cM [.const (Value.string ⟨#[107,101,101,112]⟩),.const (Value.string ⟨#[117,115,101]⟩),.const (Value.string ⟨#[104,111,108,100]⟩),.const (Value.string ⟨#[97,99,116]⟩),.const (Value.string ⟨#[99,97,108,108,101,100]⟩)] TK Q Q eQ Q Q Q Q Q) (BE hm λr88 hr88 hm=>?_));refine dE [1,2] (λj=>Nat.beq j 1) Q Q Q (by decide) Q Q Q Q (dY hr88) Q Q Q ?_;exact aH 4 Q (GE hm λg89 hm=>SX Q Q (aZ Q Q Q Q g89) (aI 2 Q (bU [0,1,2] hm Q Q)))
  refine aQ 2 Q (IE hm λv90 hm hz=>?_);rw [hz86 _ hz] at hm;exact WX (bP 1 Q (bM [0,1,2] hm Q Q))
 refine WN [3] Q Q (aQ 6 Q ?_);obtain rfl:=OJ hm;exact EndsS.one _ Q (dA Q) (.refl _)
theorem cX {p0:Au} {p1:Int} {p2:Int} {r:Ad} (hm:cC p0 p1 p2=some r):Ret TP 160 [.box 135 [.d (.sl 14 (p0.Ab.t.Ac.map Aj.enc)),.d (.sl 1 (p0.Ab.t.Ae.map (D.int .i64))),.d (.sl 1 (p0.Ab.t.As.map (D.int .i64))),.d (.int .i64 p0.Ab.t.Aa),.d (.int .i64 p0.Ab.t.Al),.d (.int .i64 p0.Ab.inputs),.d (.sl 1 (p0.Ab.A1.map (D.int .i64))),.d (.int .i64 p0.Ab.extra),.d (.int .i64 p0.Ab.count),.msl 1 6 0 p0.An.length],.flat 64 6 (p0.An.map At.enc)] (λ_=>false) [.mptr 0 0 0 0,.d (.int .i64 p1),.d (.int .i64 p2)] (.d (r.enc)) [.box 135 [.d (.sl 14 (p0.Ab.t.Ac.map Aj.enc)),.d (.sl 1 (p0.Ab.t.Ae.map (D.int .i64))),.d (.sl 1 (p0.Ab.t.As.map (D.int .i64))),.d (.int .i64 p0.Ab.t.Aa),.d (.int .i64 p0.Ab.t.Al),.d (.int .i64 p0.Ab.inputs),.d (.sl 1 (p0.Ab.A1.map (D.int .i64))),.d (.int .i64 p0.Ab.extra),.d (.int .i64 p0.Ab.count),.msl 1 6 0 p0.An.length],.flat 64 6 (p0.An.map At.enc)]:=by
 refine cA (bA Q) func160 Q ntmps160 Q Q (λwX gX=>?_);unfold cC at hm;refine WN [0,1,2] Q Q (aP 1 Q (cD 2 Q Q aJ Q (bY 2 [none,none,some 3] Q Q (aH 9 Q (c_N hm (eO ·) Q Q Q Q λr1 hm=>c_D hm (cW ·) Q Q Q Q λr2 hm=>aI 4 Q ?_)))));obtain rfl:=OJ hm;exact⟨_,[0,1],.mk _ (.cons (.agg (TK.lay Q) Q Q Q Q) .nil) Q,by decide,(kB Q),Q,Q⟩
theorem cY {p0:Au} {p1:Int} {p2:Int} {r:Ad} (hm:cH p0 p1 p2=some r):Ret TP 161 [.box 135 [.d (.sl 14 (p0.Ab.t.Ac.map Aj.enc)),.d (.sl 1 (p0.Ab.t.Ae.map (D.int .i64))),.d (.sl 1 (p0.Ab.t.As.map (D.int .i64))),.d (.int .i64 p0.Ab.t.Aa),.d (.int .i64 p0.Ab.t.Al),.d (.int .i64 p0.Ab.inputs),.d (.sl 1 (p0.Ab.A1.map (D.int .i64))),.d (.int .i64 p0.Ab.extra),.d (.int .i64 p0.Ab.count),.msl 1 6 0 p0.An.length],.flat 64 6 (p0.An.map At.enc)] (λ_=>false) [.mptr 0 0 0 0,.d (.int .i64 p1),.d (.int .i64 p2)] (.d (r.enc)) [.box 135 [.d (.sl 14 (p0.Ab.t.Ac.map Aj.enc)),.d (.sl 1 (p0.Ab.t.Ae.map (D.int .i64))),.d (.sl 1 (p0.Ab.t.As.map (D.int .i64))),.d (.int .i64 p0.Ab.t.Aa),.d (.int .i64 p0.Ab.t.Al),.d (.int .i64 p0.Ab.inputs),.d (.sl 1 (p0.Ab.A1.map (D.int .i64))),.d (.int .i64 p0.Ab.extra),.d (.int .i64 p0.Ab.count),.msl 1 6 0 p0.An.length],.flat 64 6 (p0.An.map At.enc)]:=by
 refine cA (bA Q) func161 Q ntmps161 Q Q (λwX gX=>?_);unfold cH at hm;refine WN [0,1,2] Q Q (aP 1 Q (cD 2 Q Q aJ Q (bY 2 [none,none,some 3] Q Q (aH 9 Q (c_N hm (sK ·) Q Q Q Q λr1 hm=>c_D hm (cW ·) Q Q Q Q λr2 hm=>aI 4 Q ?_)))));obtain rfl:=OJ hm;exact⟨_,[0,1],.mk _ (.cons (.agg (TK.lay Q) Q Q Q Q) .nil) Q,by decide,(kB Q),Q,Q⟩
theorem fY {p0:Au} {p1:Int} {p2:Int} {r:Ad} (hm:dP p0 p1 p2=some r):Ret TP 170 [.box 135 [.d (.sl 14 (p0.Ab.t.Ac.map Aj.enc)),.d (.sl 1 (p0.Ab.t.Ae.map (D.int .i64))),.d (.sl 1 (p0.Ab.t.As.map (D.int .i64))),.d (.int .i64 p0.Ab.t.Aa),.d (.int .i64 p0.Ab.t.Al),.d (.int .i64 p0.Ab.inputs),.d (.sl 1 (p0.Ab.A1.map (D.int .i64))),.d (.int .i64 p0.Ab.extra),.d (.int .i64 p0.Ab.count),.msl 1 6 0 p0.An.length],.flat 64 6 (p0.An.map At.enc)] (λ_=>false) [.mptr 0 0 0 0,.d (.int .i64 p1),.d (.int .i64 p2)] (.d (r.enc)) [.box 135 [.d (.sl 14 (p0.Ab.t.Ac.map Aj.enc)),.d (.sl 1 (p0.Ab.t.Ae.map (D.int .i64))),.d (.sl 1 (p0.Ab.t.As.map (D.int .i64))),.d (.int .i64 p0.Ab.t.Aa),.d (.int .i64 p0.Ab.t.Al),.d (.int .i64 p0.Ab.inputs),.d (.sl 1 (p0.Ab.A1.map (D.int .i64))),.d (.int .i64 p0.Ab.extra),.d (.int .i64 p0.Ab.count),.msl 1 6 0 p0.An.length],.flat 64 6 (p0.An.map At.enc)]:=by
 refine cA (bA Q) func170 Q ntmps170 Q Q (λwX gX=>?_);unfold dP at hm;refine WN [0,1,2] Q Q (aP 1 Q (cD 2 Q Q aJ Q (bY 2 [none,none,some 3] Q Q (aH 9 Q (GE hm λg1 hm=>SX Q Q (aZ Q Q Q Q g1) (c_N hm (eO ·) Q Q Q Q λr2 hm=>c_D hm (cW ·) Q Q Q Q λr3 hm=>aI 4 Q ?_))))));obtain rfl:=OJ hm;exact⟨_,[0,1],.mk _ (.cons (.agg (TK.lay Q) Q Q Q Q) .nil) Q,by decide,(kB Q),Q,Q⟩
theorem dN {p0:Au} {p1:Int} {r:Ad} (hm:cO p0 p1=some r):Ret TP 166 [.box 135 [.d (.sl 14 (p0.Ab.t.Ac.map Aj.enc)),.d (.sl 1 (p0.Ab.t.Ae.map (D.int .i64))),.d (.sl 1 (p0.Ab.t.As.map (D.int .i64))),.d (.int .i64 p0.Ab.t.Aa),.d (.int .i64 p0.Ab.t.Al),.d (.int .i64 p0.Ab.inputs),.d (.sl 1 (p0.Ab.A1.map (D.int .i64))),.d (.int .i64 p0.Ab.extra),.d (.int .i64 p0.Ab.count),.msl 1 6 0 p0.An.length],.flat 64 6 (p0.An.map At.enc)] (λ_=>false) [.mptr 0 0 0 0,.d (.int .i64 p1)] (.d (r.enc)) [.box 135 [.d (.sl 14 (p0.Ab.t.Ac.map Aj.enc)),.d (.sl 1 (p0.Ab.t.Ae.map (D.int .i64))),.d (.sl 1 (p0.Ab.t.As.map (D.int .i64))),.d (.int .i64 p0.Ab.t.Aa),.d (.int .i64 p0.Ab.t.Al),.d (.int .i64 p0.Ab.inputs),.d (.sl 1 (p0.Ab.A1.map (D.int .i64))),.d (.int .i64 p0.Ab.extra),.d (.int .i64 p0.Ab.count),.msl 1 6 0 p0.An.length],.flat 64 6 (p0.An.map At.enc)]:=by
 refine cA (bA Q) func166 Q ntmps166 Q Q (λwX gX=>?_);unfold cO at hm;refine WN [0,1] Q Q (aP 1 Q (cD 2 Q Q aJ Q (bY 2 [none,none,some 3] Q Q (aH 8 Q (c_N hm (nD ·) Q Q Q Q λr1 hm=>c_D hm (cW ·) Q Q Q Q λr2 hm=>aI 4 Q ?_)))));obtain rfl:=OJ hm;exact⟨_,[0,1],.mk _ (.cons (.agg (TK.lay Q) Q Q Q Q) .nil) Q,by decide,(kB Q),Q,Q⟩
theorem lB {p0:Au} {p1:Int} {r:Ad} (hm:fK p0 p1=some r):Ret TP 162 [.box 135 [.d (.sl 14 (p0.Ab.t.Ac.map Aj.enc)),.d (.sl 1 (p0.Ab.t.Ae.map (D.int .i64))),.d (.sl 1 (p0.Ab.t.As.map (D.int .i64))),.d (.int .i64 p0.Ab.t.Aa),.d (.int .i64 p0.Ab.t.Al),.d (.int .i64 p0.Ab.inputs),.d (.sl 1 (p0.Ab.A1.map (D.int .i64))),.d (.int .i64 p0.Ab.extra),.d (.int .i64 p0.Ab.count),.msl 1 6 0 p0.An.length],.flat 64 6 (p0.An.map At.enc)] (λ_=>false) [.mptr 0 0 0 0,.d (.int .i64 p1)] (.d (r.enc)) [.box 135 [.d (.sl 14 (p0.Ab.t.Ac.map Aj.enc)),.d (.sl 1 (p0.Ab.t.Ae.map (D.int .i64))),.d (.sl 1 (p0.Ab.t.As.map (D.int .i64))),.d (.int .i64 p0.Ab.t.Aa),.d (.int .i64 p0.Ab.t.Al),.d (.int .i64 p0.Ab.inputs),.d (.sl 1 (p0.Ab.A1.map (D.int .i64))),.d (.int .i64 p0.Ab.extra),.d (.int .i64 p0.Ab.count),.msl 1 6 0 p0.An.length],.flat 64 6 (p0.An.map At.enc)]:=by
 refine cA (bA Q) func162 Q ntmps162 Q Q (λwX gX=>?_);unfold fK at hm;refine WN [0,1] Q Q (aP 1 Q (cD 2 Q Q aJ Q (bY 2 [none,none,some 3] Q Q (aH 3 Q (fM (f:=Ad.Aq) 3 40 3 Q Q Q (aG 2 Q (aL hm (λb1=>([(5,.msl 3 3 0 b1.length)])) (λb1=>([(3,.flat 40 3 (b1.map Ad.Aq))])) [5] [4] Q (λz2 hm=>?_) (λb1 hm=>?_))))))))
 ·refine aP 8 Q (VE hm λe3 he3 hm=>SX Q Q (bR TK Q Q Q Q he3) (aH 2 Q (SX Q Q (aU TK Q Q Q) (aG 4 Q (aT hm (λ(x7,b8)=>([(5,.msl 3 3 0 b8.length),(19,.d (.int .i64 x7))])) (λ(x7,b8)=>([(3,.flat 40 3 (b8.map Ad.Aq))])) [5,19] [0,1,4,17,18] [0,1,2,3] Q (kB Q) Q Q Q Q Q (λs z9 hm hz9=>?_))))));obtain⟨x7,b8⟩:=s;refine WN [0,1,4,5,17,18,19] Q Q (bK 5 Q (bG hm Q (λh10 hm=>?_) (λh10 hm=>?_)))
  ·refine aM 6 Q (VE hm λe11 he11 hm=>SX Q Q (bR TK Q Q Q Q he11) (aH 12 Q (c_N hm (dJ ·) Q Q Q Q λr12 hm=>aG 3 Q (bG hm Q (λh13 hm=>?_) (λh13 hm=>?_)))))
   ·refine aM 5 Q (BE hm λr14 hr14 hm=>?_);refine SX Q Q (aK [0,1] ⟨Q,Q,λ_=>Q⟩ Q Q Q (by decide) Q (aF Q) Q Q (fY hr14)) ?_;refine aH 2 Q (BE hm λr15 hr15 hm=>?_);refine SX Q Q (aK [0,1] ⟨Q,Q,λ_=>Q⟩ Q Q Q (by decide) Q (aF Q) Q Q (dN hr15)) ?_;refine SX Q Q (bJ (f:=Ad.Aq) (xs:=([r14,r15]:List Ad)) [.tmp 36,.tmp 39] TK Q Q aJ Q (bF Q (aE (Ad.Ai _) (aE (Ad.Ai _) aS))) Q (aO Ad.Ak) Q) (c_D hm (eT ·) Q Q Q Q λr16 hm=>SX Q Q (bJ (f:=Ad.Aq) (xs:=([r16]:List Ad)) [.tmp 41] TK Q Q aJ Q (bF Q (aE (Ad.Ai _) aS)) Q (aO Ad.Ak) Q) (GE hm λg17 hm=>?_));refine cF (f:=Ad.Aq) ([r16]:List Ad) TK Q Q aJ Q Q Q Q Q (λh=>absurd (show 3 < 2 from h) (by decide)) Q bZ g17 Q Q ?_;exact aG 4 Q (WN [0,1,4,5,17,18,19] Q Q (aM 1 Q (GE hm λg18 hm=>SX Q Q (aZ Q Q Q Q g18) (aI 2 Q (e_l [0,1,2,3] hm Q (kB Q) Q)))))
   refine aM 4 Q (BE hm λr19 hr19 hm=>?_);refine SX Q Q (aK [0,1] ⟨Q,Q,λ_=>Q⟩ Q Q Q (by decide) Q (aF Q) Q Q (dN hr19)) ?_;refine SX Q Q (bJ (f:=Ad.Aq) (xs:=([r19]:List Ad)) [.tmp 47] TK Q Q aJ Q (bF Q (aE (Ad.Ai _) aS)) Q (aO Ad.Ak) Q) (GE hm λg20 hm=>?_);refine cF (f:=Ad.Aq) ([r19]:List Ad) TK Q Q aJ Q Q Q Q Q (λh=>absurd (show 3 < 2 from h) (by decide)) Q bZ g20 Q Q ?_;exact aG 4 Q (WN [0,1,4,5,17,18,19] Q Q (aM 1 Q (GE hm λg21 hm=>SX Q Q (aZ Q Q Q Q g21) (aI 2 Q (e_l [0,1,2,3] hm Q (kB Q) Q)))))
  refine aQ 2 Q (IE hm λv22 hm hz=>?_);rw [hz9 _ hz] at hm;exact WX (bP 1 Q (e_j [0,1,2,3] hm Q (kB Q) Q))
 refine WN [4,5] Q Q ?_;refine kM 5 3 [4] Q Q Q Q Q (by simp) Q Q ?_;refine aM 2 Q (c_D hm (dK ·) Q Q Q Q λr23 hm=>aI 4 Q ?_);obtain rfl:=OJ hm;exact⟨_,[0,1],.mk _ (.cons (.agg (TK.lay Q) Q Q Q Q) .nil) Q,by decide,(kB Q),Q,Q⟩
theorem oE {p0:Au} {p1:Int} {r:Ad} (hm:gQ p0 p1=some r):Ret TP 164 [.box 135 [.d (.sl 14 (p0.Ab.t.Ac.map Aj.enc)),.d (.sl 1 (p0.Ab.t.Ae.map (D.int .i64))),.d (.sl 1 (p0.Ab.t.As.map (D.int .i64))),.d (.int .i64 p0.Ab.t.Aa),.d (.int .i64 p0.Ab.t.Al),.d (.int .i64 p0.Ab.inputs),.d (.sl 1 (p0.Ab.A1.map (D.int .i64))),.d (.int .i64 p0.Ab.extra),.d (.int .i64 p0.Ab.count),.msl 1 6 0 p0.An.length],.flat 64 6 (p0.An.map At.enc)] (λ_=>false) [.mptr 0 0 0 0,.d (.int .i64 p1)] (.d (r.enc)) [.box 135 [.d (.sl 14 (p0.Ab.t.Ac.map Aj.enc)),.d (.sl 1 (p0.Ab.t.Ae.map (D.int .i64))),.d (.sl 1 (p0.Ab.t.As.map (D.int .i64))),.d (.int .i64 p0.Ab.t.Aa),.d (.int .i64 p0.Ab.t.Al),.d (.int .i64 p0.Ab.inputs),.d (.sl 1 (p0.Ab.A1.map (D.int .i64))),.d (.int .i64 p0.Ab.extra),.d (.int .i64 p0.Ab.count),.msl 1 6 0 p0.An.length],.flat 64 6 (p0.An.map At.enc)]:=by
 refine cA (bA Q) func164 Q ntmps164 Q Q (λwX gX=>?_);unfold gQ at hm;refine WN [0,1] Q Q (aP 1 Q (cD 2 Q Q aJ Q (bY 2 [none,none,some 3] Q Q (aH 9 Q (c_N hm (dJ ·) Q Q Q Q λr1 hm=>aG 3 Q (bG hm Q (λh2 hm=>?_) (λh2 hm=>?_)))))))
 ·refine aM 1 Q (BE hm λr3 hr3 hm=>SX Q Q (RD Q Q Q ((dK hr3).args ((.cons (.nil _) .nil)))) (aI 5 Q ?_));obtain rfl:=OJ hm;exact⟨_,[0,1],.mk _ (.cons (.agg (TK.lay Q) Q Q Q Q) .nil) Q,by decide,(kB Q),Q,Q⟩
 refine aM 10 Q (c_N hm (dJ ·) Q Q Q Q λr4 hm=>GE hm λg5 hm=>SX Q Q (aZ Q Q Q Q g5) (BE hm λr6 hr6 hm=>?_));refine SX Q Q (aK [0,1] ⟨Q,Q,λ_=>Q⟩ Q Q Q (by decide) Q (aF Q) Q Q (fY hr6)) ?_;refine aG 3 Q (WN [4] Q Q (aQ 1 Q ?_));obtain rfl:=OJ hm;exact⟨_,[0,1],.mk _ (.cons (.agg (TK.lay Q) Q Q Q Q) .nil) Q,by decide,(kB Q),Q,Q⟩
theorem vS {p0:Au} {p1:Int} {r:Au} (hm:iT p0 p1=some r):Ret TP 83 [.box 135 [.d (.sl 14 (p0.Ab.t.Ac.map Aj.enc)),.d (.sl 1 (p0.Ab.t.Ae.map (D.int .i64))),.d (.sl 1 (p0.Ab.t.As.map (D.int .i64))),.d (.int .i64 p0.Ab.t.Aa),.d (.int .i64 p0.Ab.t.Al),.d (.int .i64 p0.Ab.inputs),.d (.sl 1 (p0.Ab.A1.map (D.int .i64))),.d (.int .i64 p0.Ab.extra),.d (.int .i64 p0.Ab.count),.msl 1 6 0 p0.An.length],.flat 64 6 (p0.An.map At.enc)] (λj=>Nat.beq j 1) [.mptr 0 0 0 0,.d (.int .i64 p1)] (.tup []) [.box 135 [.d (.sl 14 (p0.Ab.t.Ac.map Aj.enc)),.d (.sl 1 (p0.Ab.t.Ae.map (D.int .i64))),.d (.sl 1 (p0.Ab.t.As.map (D.int .i64))),.d (.int .i64 p0.Ab.t.Aa),.d (.int .i64 p0.Ab.t.Al),.d (.int .i64 p0.Ab.inputs),.d (.sl 1 (p0.Ab.A1.map (D.int .i64))),.d (.int .i64 p0.Ab.extra),.d (.int .i64 p0.Ab.count),.msl 1 6 0 r.An.length],.flat 64 6 (r.An.map At.enc)]:=by
 refine cA (bA Q) func83 Q ntmps83 Q Q (λwX gX=>?_);unfold iT at hm;refine WN [0,1] Q Q (aP 8 Q (VE hm λe1 he1 hm=>SX Q Q (bR TK Q Q Q Q he1) (aG 5 Q (cU follows ?_))));iterate 10 (refine DA [0,1] TK Q ?_)
 refine fE [0,1] hm (lP ·) Q Q Q Q λr2 hm=>?_;iterate 2 (refine DA [0,1] TK Q ?_)
 refine BE hm λr3 hr3 hm=>?_;refine DX [0,1] Q Q (aK [0,1] ⟨Q,Q,λ_=>Q⟩ Q Q Q (by decide) Q (aF Q) Q Q (cX hr3)) ?_;iterate 2 (refine DA [0,1] TK Q ?_)
 refine BE hm λr4 hr4 hm=>?_;refine DX [0,1] Q Q (aK [0,1] ⟨Q,Q,λ_=>Q⟩ Q Q Q (by decide) Q (aF Q) Q Q (cY hr4)) ?_;iterate 2 (refine DA [0,1] TK Q ?_)
 refine BE hm λr5 hr5 hm=>?_;refine DX [0,1] Q Q (aK [0,1] ⟨Q,Q,λ_=>Q⟩ Q Q Q (by decide) Q (aF Q) Q Q (lB hr5)) ?_;refine DX [0,1] Q Q (bJ (f:=Ad.Aq) (xs:=([r3,r4,r5]:List Ad)) [.tmp 28,.tmp 31,.tmp 34] TK Q Q aJ Q (bF Q (aE (Ad.Ai _) (aE (Ad.Ai _) (aE (Ad.Ai _) aS)))) Q (aO Ad.Ak) Q) (cL [0,1] hm (dK ·) Q Q Q Q λr6 hm=>DX [0,1] Q Q (cJ Q qHO iK Q Q Q Q) ?_);iterate 5 (refine DA [0,1] TK Q ?_)
 refine fE [0,1] hm (nT ·) Q Q Q Q λr7 hm=>?_;iterate 2 (refine DA [0,1] TK Q ?_)
 refine BE hm λr8 hr8 hm=>?_;refine DX [0,1] Q Q (aK [0,1] ⟨Q,Q,λ_=>Q⟩ Q Q Q (by decide) Q (aF Q) Q Q (cX hr8)) ?_;iterate 2 (refine DA [0,1] TK Q ?_)
 refine BE hm λr9 hr9 hm=>?_;refine DX [0,1] Q Q (aK [0,1] ⟨Q,Q,λ_=>Q⟩ Q Q Q (by decide) Q (aF Q) Q Q (cY hr9)) ?_;iterate 2 (refine DA [0,1] TK Q ?_)
 refine BE hm λr10 hr10 hm=>?_;refine DX [0,1] Q Q (aK [0,1] ⟨Q,Q,λ_=>Q⟩ Q Q Q (by decide) Q (aF Q) Q Q (oE hr10)) ?_;iterate 7 (refine DA [0,1] TK Q ?_)
 refine fE [0,1] hm (dJ ·) Q Q Q Q λr11 hm=>VE hm λe12 he12 hm=>DX [0,1] Q Q (bR TK Q Q Q Q he12) (DA [0,1] TK Q (BE hm λr13 hr13 hm=>?_));refine DX [0,1] Q Q (aK [0,1] ⟨Q,Q,λ_=>Q⟩ Q Q Q (by decide) Q (aF Q) Q Q (dN hr13)) ?_;refine cL [0,1] hm (dZ ·) Q Q Q Q λr14 hm=>DX [0,1] Q Q (bJ (f:=Ad.Aq) (xs:=([r8,r9,r10,r14]:List Ad)) [.tmp 46,.tmp 49,.tmp 52,.tmp 64] TK Q Q aJ Q (bF Q (aE (Ad.Ai _) (aE (Ad.Ai _) (aE (Ad.Ai _) (aE (Ad.Ai _) aS))))) Q (aO Ad.Ak) Q) (cL [0,1] hm (dK ·) Q Q Q Q λr15 hm=>DX [0,1] Q Q (cJ Q qHO iK Q Q Q Q) (DX [0,1] Q Q (cM [.tmp 37,.tmp 67] TK Q Q iK Q Q Q Q Q) ?_));refine yL 0 15 ?_ ?_ Q (by kernel_rfl) (by kernel_rfl) (by kernel_rfl)
 ·refine GE hm λg16 hm=>cF (f:=At.enc) ([(⟨(2:Int),r2,(12:Int),r6⟩:At),(⟨(2:Int),r7,(4:Int),r15⟩:At)]:List At) TK Q Q iK Q Q Q Q Q (λ_=>Q) Q bZ g16 Q Q (aI 4 Q ?_);obtain rfl:=OJ hm;exact⟨_,[0,1],res Q,by decide,(kB Q),Q,Q⟩
 refine GE hm λg17 hm=>cF (f:=At.enc) ([(⟨(2:Int),r2,(12:Int),r6⟩:At),(⟨(2:Int),r7,(4:Int),r15⟩:At)]:List At) TK Q Q iK Q Q Q Q Q (λ_=>Q) Q bZ g17 Q Q (aI 5 Q ?_);obtain rfl:=OJ hm;exact⟨_,[0,1],res Q,by decide,(kB Q),Q,Q⟩
theorem lQ {p0:Au} {p1:Int} {r:Ad} (hm:fS p0 p1=some r):Ret TP 167 [.box 135 [.d (.sl 14 (p0.Ab.t.Ac.map Aj.enc)),.d (.sl 1 (p0.Ab.t.Ae.map (D.int .i64))),.d (.sl 1 (p0.Ab.t.As.map (D.int .i64))),.d (.int .i64 p0.Ab.t.Aa),.d (.int .i64 p0.Ab.t.Al),.d (.int .i64 p0.Ab.inputs),.d (.sl 1 (p0.Ab.A1.map (D.int .i64))),.d (.int .i64 p0.Ab.extra),.d (.int .i64 p0.Ab.count),.msl 1 6 0 p0.An.length],.flat 64 6 (p0.An.map At.enc)] (λ_=>false) [.mptr 0 0 0 0,.d (.int .i64 p1)] (.d (r.enc)) [.box 135 [.d (.sl 14 (p0.Ab.t.Ac.map Aj.enc)),.d (.sl 1 (p0.Ab.t.Ae.map (D.int .i64))),.d (.sl 1 (p0.Ab.t.As.map (D.int .i64))),.d (.int .i64 p0.Ab.t.Aa),.d (.int .i64 p0.Ab.t.Al),.d (.int .i64 p0.Ab.inputs),.d (.sl 1 (p0.Ab.A1.map (D.int .i64))),.d (.int .i64 p0.Ab.extra),.d (.int .i64 p0.Ab.count),.msl 1 6 0 p0.An.length],.flat 64 6 (p0.An.map At.enc)]:=by
 refine cA (bA Q) func167 Q ntmps167 Q Q (λwX gX=>?_);unfold fS at hm;refine WN [0,1] Q Q (aP 1 Q (cD 2 Q Q aJ Q (bY 2 [none,none,some 3] Q Q (aH 10 Q (VE hm λe1 he1 hm=>SX Q Q (bR TK Q Q Q Q he1) (aH 1 Q (cD 3 Q Q fL Q (bY 3 [none,none,none,some 3,some 2,some 1,none,none,some 3,some 2,some 1,some 2,some 1,some 2] Q Q (aH 4 Q (fM (f:=Ad.Aq) 4 40 3 Q Q Q (aG 2 Q (WN [0,4,5,6] Q Q (aL hm (λb2=>([(6,.msl 4 3 0 b2.length)])) (λb2=>([(4,.flat 40 3 (b2.map Ad.Aq))])) [6] [0,4,5] Q (λz3 hm=>?_) (λb2 hm=>?_))))))))))))))
 ·refine aP 5 Q (SX Q Q (cM [.tmp 22,.tmp 24] TK Q Q qJH Q Q Q Q Q) (c_N hm (lS ·) Q Q Q Q λr4 hm=>SX Q Q (aU TK Q Q Q) (aG 4 Q (aT hm (λ(x8,b9)=>([(6,.msl 4 3 0 b9.length),(28,.d (.int .i64 x8))])) (λ(x8,b9)=>([(4,.flat 40 3 (b9.map Ad.Aq))])) [6,28] [0,4,5,26,27] [0,1,2,3,4] Q (kB Q) Q Q Q Q Q (λs z10 hm hz10=>?_)))));obtain⟨x8,b9⟩:=s;refine WN [0,4,5,6,26,27,28] Q Q (bK 5 Q (bG hm Q (λh11 hm=>?_) (λh11 hm=>?_)))
  ·refine aM 5 Q (VE hm λe12 he12 hm=>SX Q Q (bR TK Q Q Q Q he12) (aH 8 Q (BE hm λr13 hr13 hm=>?_)));refine SX Q Q (aK [0,1] ⟨Q,Q,λ_=>Q⟩ Q Q Q (by decide) Q (aF Q) Q Q (dN hr13)) ?_;refine SX Q Q (bJ (f:=Ad.Aq) (xs:=([r13]:List Ad)) [.tmp 35] TK Q Q aJ Q (bF Q (aE (Ad.Ai _) aS)) Q (aO Ad.Ak) Q) (GE hm λg14 hm=>?_);refine cF (f:=Ad.Aq) ([r13]:List Ad) TK Q Q aJ Q Q Q Q Q (λh=>absurd (show 4 < 2 from h) (by decide)) Q bZ g14 Q Q ?_;exact aG 4 Q (WN [0,4,5,6,26,27,28] Q Q (aM 1 Q (GE hm λg15 hm=>SX Q Q (aZ Q Q Q Q g15) (aI 2 Q (e_l [0,1,2,3,4] hm Q (kB Q) Q)))))
  refine aQ 2 Q (IE hm λv16 hm hz=>?_);rw [hz10 _ hz] at hm;exact WX (bP 1 Q (e_j [0,1,2,3,4] hm Q (kB Q) Q))
 refine WN [0,4,5,6] Q Q (aL hm (λb17=>([(6,.msl 4 3 0 b17.length)])) (λb17=>([(4,.flat 40 3 (b17.map Ad.Aq))])) [6] [4] Q (λz18 hm=>?_) (λb17 hm=>?_))
 ·refine aP 2 Q (c_D hm (kT ·) Q Q Q Q λr19 hm=>SX Q Q (aU TK Q Q Q) (aG 4 Q (aT hm (λ(x23,b24)=>([(6,.msl 4 3 0 b24.length),(42,.d (.int .i64 x23))])) (λ(x23,b24)=>([(4,.flat 40 3 (b24.map Ad.Aq))])) [6,42] [0,4,40,41] [0,1,2,3,4] Q (kB Q) Q Q Q Q Q (λs z25 hm hz25=>?_))));obtain⟨x23,b24⟩:=s;refine WN [0,4,6,40,41,42] Q Q (bK 5 Q (bG hm Q (λh26 hm=>?_) (λh26 hm=>?_)))
  ·refine aM 5 Q (VE hm λe27 he27 hm=>SX Q Q (bR TK Q Q Q Q he27) (aH 1 Q (cD 5 Q Q fT Q (aG 3 Q (WN [0,4,6,10,40,41,42] Q Q (cR 4 Q (aL hm (λkind28=>([(11,.d (.int .i64 kind28))])) (λkind28=>[]) [11] [0,4,6,10,40,41,42] Q (λz29 hm=>?_) (λkind28 hm=>?_))))))))
   ·refine bK 6 Q (bG hm Q (λh30 hm=>?_) (λh30 hm=>?_))
    ·exact aQ 3 Q (e_j [0,1,2,3,4,5] hm Q (kB Q) Q)
    exact aQ 1 Q (e_j [0,1,2,3,4,5] hm Q (kB Q) Q)
   refine WN [0,4,6,10,11,40,41,42] Q Q (cU follows ?_);iterate 12 (refine DA [0,1,2,3,4,5] TK Q ?_)
   refine fE [0,1,2,3,4,5] hm (kN ·) Q Q Q Q λr31 hm=>DA [0,1,2,3,4,5] TK Q (fE [0,1,2,3,4,5] hm (tT ·) Q Q Q Q λr32 hm=>cL [0,1,2,3,4,5] hm (cW ·) Q Q Q Q λr33 hm=>DX [0,1,2,3,4,5] Q Q (bJ (f:=Ad.Aq) (xs:=([r33]:List Ad)) [.tmp 64] TK Q Q aJ Q (bF Q (aE (Ad.Ai _) aS)) Q (aO Ad.Ak) Q) ?_);refine DT ?_ (by kernel_rfl);refine GE hm λg34 hm=>?_;refine cF (f:=Ad.Aq) ([r33]:List Ad) TK Q Q aJ Q Q Q Q Q (λh=>absurd (show 4 < 2 from h) (by decide)) Q bZ g34 Q Q ?_;exact aG 4 Q (WN [0,4,6,40,41,42] Q Q (aM 1 Q (GE hm λg35 hm=>SX Q Q (aZ Q Q Q Q g35) (aI 2 Q (e_l [0,1,2,3,4] hm Q (kB Q) Q)))))
  refine aQ 2 Q (IE hm λv36 hm hz=>?_);rw [hz25 _ hz] at hm;exact WX (bP 1 Q (e_j [0,1,2,3,4] hm Q (kB Q) Q))
 refine WN [4,6] Q Q ?_;refine kM 6 4 [4] Q Q Q Q Q (by simp) Q Q ?_;refine aM 2 Q (c_D hm (dK ·) Q Q Q Q λr37 hm=>aG 3 Q (WN [4] Q Q (aQ 1 Q ?_)));obtain rfl:=OJ hm;exact⟨_,[0,1],.mk _ (.cons (.agg (TK.lay Q) Q Q Q Q) .nil) Q,by decide,(kB Q),Q,Q⟩
theorem eB {p0:Au} {p1:Int} {p2:Ad} {r:Au} (hm:dG p0 p1 p2=some r):Ret TP 86 [.box 135 [.d (.sl 14 (p0.Ab.t.Ac.map Aj.enc)),.d (.sl 1 (p0.Ab.t.Ae.map (D.int .i64))),.d (.sl 1 (p0.Ab.t.As.map (D.int .i64))),.d (.int .i64 p0.Ab.t.Aa),.d (.int .i64 p0.Ab.t.Al),.d (.int .i64 p0.Ab.inputs),.d (.sl 1 (p0.Ab.A1.map (D.int .i64))),.d (.int .i64 p0.Ab.extra),.d (.int .i64 p0.Ab.count),.msl 1 6 0 p0.An.length],.flat 64 6 (p0.An.map At.enc)] (λj=>Nat.beq j 1) [.mptr 0 0 0 0,.d (.int .i64 p1),.d (p2.enc)] (.tup []) [.box 135 [.d (.sl 14 (p0.Ab.t.Ac.map Aj.enc)),.d (.sl 1 (p0.Ab.t.Ae.map (D.int .i64))),.d (.sl 1 (p0.Ab.t.As.map (D.int .i64))),.d (.int .i64 p0.Ab.t.Aa),.d (.int .i64 p0.Ab.t.Al),.d (.int .i64 p0.Ab.inputs),.d (.sl 1 (p0.Ab.A1.map (D.int .i64))),.d (.int .i64 p0.Ab.extra),.d (.int .i64 p0.Ab.count),.msl 1 6 0 r.An.length],.flat 64 6 (r.An.map At.enc)]:=by
 refine cA (bA Q) func86 Q ntmps86 Q Q (λwX gX=>?_);unfold dG at hm;refine WN [0,1,2] Q Q (aP 1 Q (cT 2 Q Q Q (aG 2 Q (cU follows ?_))));iterate 7 (refine DA [0,1,2] TK Q ?_)
 refine DX [0,1,2] Q Q (cJ Q qHO iK Q Q Q Q) (DX [0,1,2] Q Q (cM [.tmp 13] TK Q Q iK Q Q Q Q Q) ?_);refine yL 0 6 ?_ ?_ Q (by kernel_rfl) (by kernel_rfl) (by kernel_rfl)
 ·refine GE hm λg1 hm=>cF (f:=At.enc) ([(⟨(1:Int),p1,(0:Int),p2⟩:At)]:List At) TK Q Q iK Q Q Q Q Q (λ_=>Q) Q bZ g1 Q Q (aI 4 Q ?_);obtain rfl:=OJ hm;exact⟨_,[0,1],res Q,by decide,(kB Q),Q,Q⟩
 refine GE hm λg2 hm=>cF (f:=At.enc) ([(⟨(1:Int),p1,(0:Int),p2⟩:At)]:List At) TK Q Q iK Q Q Q Q Q (λ_=>Q) Q bZ g2 Q Q (aI 5 Q ?_);obtain rfl:=OJ hm;exact⟨_,[0,1],res Q,by decide,(kB Q),Q,Q⟩
theorem nU {p0:Au} {p1:Int} {r:Ad} (hm:gB p0 p1=some r):Ret TP 168 [.box 135 [.d (.sl 14 (p0.Ab.t.Ac.map Aj.enc)),.d (.sl 1 (p0.Ab.t.Ae.map (D.int .i64))),.d (.sl 1 (p0.Ab.t.As.map (D.int .i64))),.d (.int .i64 p0.Ab.t.Aa),.d (.int .i64 p0.Ab.t.Al),.d (.int .i64 p0.Ab.inputs),.d (.sl 1 (p0.Ab.A1.map (D.int .i64))),.d (.int .i64 p0.Ab.extra),.d (.int .i64 p0.Ab.count),.msl 1 6 0 p0.An.length],.flat 64 6 (p0.An.map At.enc)] (λ_=>false) [.mptr 0 0 0 0,.d (.int .i64 p1)] (.d (r.enc)) [.box 135 [.d (.sl 14 (p0.Ab.t.Ac.map Aj.enc)),.d (.sl 1 (p0.Ab.t.Ae.map (D.int .i64))),.d (.sl 1 (p0.Ab.t.As.map (D.int .i64))),.d (.int .i64 p0.Ab.t.Aa),.d (.int .i64 p0.Ab.t.Al),.d (.int .i64 p0.Ab.inputs),.d (.sl 1 (p0.Ab.A1.map (D.int .i64))),.d (.int .i64 p0.Ab.extra),.d (.int .i64 p0.Ab.count),.msl 1 6 0 p0.An.length],.flat 64 6 (p0.An.map At.enc)]:=by
 refine cA (bA Q) func168 Q ntmps168 Q Q (λwX gX=>?_);unfold gB at hm;refine WN [0,1] Q Q (aP 1 Q (cD 2 Q Q aJ Q (bY 2 [none,none,some 3] Q Q (aH 3 Q (fM (f:=Ad.Aq) 3 40 3 Q Q Q (aG 2 Q (aL hm (λb1=>([(5,.msl 3 3 0 b1.length)])) (λb1=>([(3,.flat 40 3 (b1.map Ad.Aq))])) [5] [4] Q (λz2 hm=>?_) (λb1 hm=>?_))))))))
 ·refine aP 8 Q (VE hm λe3 he3 hm=>SX Q Q (bR TK Q Q Q Q he3) (aH 2 Q (SX Q Q (aU TK Q Q Q) (aG 4 Q (aT hm (λ(x7,b8)=>([(5,.msl 3 3 0 b8.length),(20,.d (.int .i64 x7))])) (λ(x7,b8)=>([(3,.flat 40 3 (b8.map Ad.Aq))])) [5,20] [0,1,4,18,19] [0,1,2,3] Q (kB Q) Q Q Q Q Q (λs z9 hm hz9=>?_))))));obtain⟨x7,b8⟩:=s;refine WN [0,1,4,5,18,19,20] Q Q (bK 5 Q (bG hm Q (λh10 hm=>?_) (λh10 hm=>?_)))
  ·refine aM 6 Q (VE hm λe11 he11 hm=>SX Q Q (bR TK Q Q Q Q he11) (aH 8 Q (BE hm λr12 hr12 hm=>?_)));refine SX Q Q (aK [0,1] ⟨Q,Q,λ_=>Q⟩ Q Q Q (by decide) Q (aF Q) Q Q (dN hr12)) ?_;refine qFS (f:=Ad.Aq) 4 [.tmp 27] ([r12]:List Ad) TK Q Q Q aJ Q (bF Q (aE (Ad.Ai _) aS)) Q (aO Ad.Ak) Q (aG 3 Q (WN [0,1,4,5,6,8,18,19,20] Q Q (aL hm (λb13=>([(8,.msl 4 3 0 b13.length)])) (λb13=>([(4,.flat 40 3 (b13.map Ad.Aq))])) [8] [0,1,4,5,6,18,19,20] Q (λz14 hm=>?_) (λb13 hm=>?_))))
   ·refine bK 5 Q (bG hm Q (λh15 hm=>?_) (λh15 hm=>?_))
    ·refine aM 5 Q (GE hm λg16 hm=>SX Q Q (aZ Q Q Q Q g16) (BE hm λr17 hr17 hm=>?_));refine SX Q Q (aK [0,1] ⟨Q,Q,λ_=>Q⟩ Q Q Q (by decide) Q (aF Q) Q Q (fY hr17)) ?_;refine SX Q Q (bJ (f:=Ad.Aq) (xs:=([r17]:List Ad)) [.tmp 36] TK Q Q aJ Q (bF Q (aE (Ad.Ai _) aS)) Q (aO Ad.Ak) Q) (GE hm λg18 hm=>?_);refine cF (f:=Ad.Aq) ([r17]:List Ad) TK Q Q aJ Q Q Q Q Q (λh=>absurd (show 4 < 2 from h) (by decide)) Q bZ g18 Q Q ?_;exact aI 2 Q (e_j [0,1,2,3,4] hm Q (kB Q) Q)
    exact aQ 1 Q (e_j [0,1,2,3,4] hm Q (kB Q) Q)
   refine WN [0,1,4,5,6,8,18,19,20] Q Q (aL hm (λb19=>([(8,.msl 4 3 0 b19.length)])) (λb19=>([(4,.flat 40 3 (b19.map Ad.Aq))])) [8] [0,1,4,5,18,19,20] Q (λz20 hm=>?_) (λb19 hm=>?_))
   ·refine aP 7 Q (c_N hm (dJ ·) Q Q Q Q λr21 hm=>aG 3 Q (bG hm Q (λh22 hm=>?_) (λh22 hm=>?_)))
    ·refine aM 5 Q (BE hm λr23 hr23 hm=>?_);refine SX Q Q (aK [0,1] ⟨Q,Q,λ_=>Q⟩ Q Q Q (by decide) Q (aF Q) Q Q (fY hr23)) ?_;refine c_D hm (dZ ·) Q Q Q Q λr24 hm=>SX Q Q (bJ (f:=Ad.Aq) (xs:=([r24]:List Ad)) [.tmp 52] TK Q Q aJ Q (bF Q (aE (Ad.Ai _) aS)) Q (aO Ad.Ak) Q) (GE hm λg25 hm=>?_);refine cF (f:=Ad.Aq) ([r24]:List Ad) TK Q Q aJ Q Q Q Q Q (λh=>absurd (show 4 < 2 from h) (by decide)) Q bZ g25 Q Q ?_;exact aI 2 Q (e_j [0,1,2,3,4] hm Q (kB Q) Q)
    exact aQ 1 Q (e_j [0,1,2,3,4] hm Q (kB Q) Q)
   refine WN [0,1,4,5,8,18,19,20] Q Q ?_;refine kM 8 4 [0,1,4,5,18,19,20] Q Q Q Q Q (by simp) Q Q ?_;refine aM 3 Q (c_D hm (dK ·) Q Q Q Q λr26 hm=>SX Q Q (bJ (f:=Ad.Aq) (xs:=([r26]:List Ad)) [.tmp 57] TK Q Q aJ Q (bF Q (aE (Ad.Ai _) aS)) Q (aO Ad.Ak) Q) (GE hm λg27 hm=>?_));refine cF (f:=Ad.Aq) ([r26]:List Ad) TK Q Q aJ Q Q Q Q Q (λh=>absurd (show 3 < 2 from h) (by decide)) Q bZ g27 Q Q ?_;exact aG 4 Q (WN [0,1,4,5,18,19,20] Q Q (aM 1 Q (GE hm λg28 hm=>SX Q Q (aZ Q Q Q Q g28) (aI 2 Q (e_l [0,1,2,3] hm Q (kB Q) Q)))))
  refine aQ 2 Q (IE hm λv29 hm hz=>?_);rw [hz9 _ hz] at hm;exact WX (bP 1 Q (e_j [0,1,2,3] hm Q (kB Q) Q))
 refine WN [4,5] Q Q ?_;refine kM 5 3 [4] Q Q Q Q Q (by simp) Q Q ?_;refine aM 2 Q (c_D hm (eT ·) Q Q Q Q λr30 hm=>aI 4 Q ?_);obtain rfl:=OJ hm;exact⟨_,[0,1],.mk _ (.cons (.agg (TK.lay Q) Q Q Q Q) .nil) Q,by decide,(kB Q),Q,Q⟩
theorem oD {p0:Au} {p1:Int} {r:Ad} (hm:gP p0 p1=some r):Ret TP 169 [.box 135 [.d (.sl 14 (p0.Ab.t.Ac.map Aj.enc)),.d (.sl 1 (p0.Ab.t.Ae.map (D.int .i64))),.d (.sl 1 (p0.Ab.t.As.map (D.int .i64))),.d (.int .i64 p0.Ab.t.Aa),.d (.int .i64 p0.Ab.t.Al),.d (.int .i64 p0.Ab.inputs),.d (.sl 1 (p0.Ab.A1.map (D.int .i64))),.d (.int .i64 p0.Ab.extra),.d (.int .i64 p0.Ab.count),.msl 1 6 0 p0.An.length],.flat 64 6 (p0.An.map At.enc)] (λ_=>false) [.mptr 0 0 0 0,.d (.int .i64 p1)] (.d (r.enc)) [.box 135 [.d (.sl 14 (p0.Ab.t.Ac.map Aj.enc)),.d (.sl 1 (p0.Ab.t.Ae.map (D.int .i64))),.d (.sl 1 (p0.Ab.t.As.map (D.int .i64))),.d (.int .i64 p0.Ab.t.Aa),.d (.int .i64 p0.Ab.t.Al),.d (.int .i64 p0.Ab.inputs),.d (.sl 1 (p0.Ab.A1.map (D.int .i64))),.d (.int .i64 p0.Ab.extra),.d (.int .i64 p0.Ab.count),.msl 1 6 0 p0.An.length],.flat 64 6 (p0.An.map At.enc)]:=by
 refine cA (bA Q) func169 Q ntmps169 Q Q (λwX gX=>?_);unfold gP at hm;refine WN [0,1] Q Q (aP 1 Q (cD 2 Q Q aJ Q (bY 2 [none,none,some 3] Q Q (aH 5 Q (BE hm λr1 hr1 hm=>?_)))));refine SX Q Q (aK [0,1] ⟨Q,Q,λ_=>Q⟩ Q Q Q (by decide) Q (aF Q) Q Q (cX hr1)) ?_;refine aH 2 Q (BE hm λr2 hr2 hm=>?_);refine SX Q Q (aK [0,1] ⟨Q,Q,λ_=>Q⟩ Q Q Q (by decide) Q (aF Q) Q Q (cX hr2)) ?_;refine SX Q Q (bJ (f:=Ad.Aq) (xs:=([r1,r2]:List Ad)) [.tmp 7,.tmp 10] TK Q Q aJ Q (bF Q (aE (Ad.Ai _) (aE (Ad.Ai _) aS))) Q (aO Ad.Ak) Q) (c_D hm (eT ·) Q Q Q Q λr3 hm=>aH 2 Q (BE hm λr4 hr4 hm=>?_));refine SX Q Q (aK [0,1] ⟨Q,Q,λ_=>Q⟩ Q Q Q (by decide) Q (aF Q) Q Q (cY hr4)) ?_;refine c_D hm (dZ ·) Q Q Q Q λr5 hm=>aH 2 Q (BE hm λr6 hr6 hm=>?_);refine SX Q Q (aK [0,1] ⟨Q,Q,λ_=>Q⟩ Q Q Q (by decide) Q (aF Q) Q Q (lQ hr6)) ?_;refine SX Q Q (bJ (f:=Ad.Aq) (xs:=([r3,r5,r6]:List Ad)) [.tmp 12,.tmp 16,.tmp 19] TK Q Q aJ Q (bF Q (aE (Ad.Ai _) (aE (Ad.Ai _) (aE (Ad.Ai _) aS)))) Q (aO Ad.Ak) Q) (c_D hm (dK ·) Q Q Q Q λr7 hm=>aG 3 Q (WN [4] Q Q (aQ 1 Q ?_)));obtain rfl:=OJ hm;exact⟨_,[0,1],.mk _ (.cons (.agg (TK.lay Q) Q Q Q Q) .nil) Q,by decide,(kB Q),Q,Q⟩
theorem tU {p0:Au} {p1:Int} {r:Au} (hm:iB p0 p1=some r):Ret TP 84 [.box 135 [.d (.sl 14 (p0.Ab.t.Ac.map Aj.enc)),.d (.sl 1 (p0.Ab.t.Ae.map (D.int .i64))),.d (.sl 1 (p0.Ab.t.As.map (D.int .i64))),.d (.int .i64 p0.Ab.t.Aa),.d (.int .i64 p0.Ab.t.Al),.d (.int .i64 p0.Ab.inputs),.d (.sl 1 (p0.Ab.A1.map (D.int .i64))),.d (.int .i64 p0.Ab.extra),.d (.int .i64 p0.Ab.count),.msl 1 6 0 p0.An.length],.flat 64 6 (p0.An.map At.enc)] (λj=>Nat.beq j 1) [.mptr 0 0 0 0,.d (.int .i64 p1)] (.tup []) [.box 135 [.d (.sl 14 (p0.Ab.t.Ac.map Aj.enc)),.d (.sl 1 (p0.Ab.t.Ae.map (D.int .i64))),.d (.sl 1 (p0.Ab.t.As.map (D.int .i64))),.d (.int .i64 p0.Ab.t.Aa),.d (.int .i64 p0.Ab.t.Al),.d (.int .i64 p0.Ab.inputs),.d (.sl 1 (p0.Ab.A1.map (D.int .i64))),.d (.int .i64 p0.Ab.extra),.d (.int .i64 p0.Ab.count),.msl 1 6 0 r.An.length],.flat 64 6 (r.An.map At.enc)]:=by
 refine cA (bA Q) func84 Q ntmps84 Q Q (λwX gX=>?_);unfold iB at hm;refine WN [0,1] Q Q (aP 8 Q (VE hm λe1 he1 hm=>SX Q Q (bR TK Q Q Q Q he1) (aH 1 Q (cD 2 Q Q fL Q (bY 2 [none,none,none,some 3,some 2,some 1,none,none,some 3,some 2,some 1,some 2,some 1,some 2] Q Q (aG 3 Q (bV follows ?_)))))));iterate 2 (refine DA [0,1,2] TK Q ?_)
 refine VE hm λe2 he2 hm=>DX [0,1,2] Q Q (bR TK Q Q Q Q he2) ?_;iterate 8 (refine DA [0,1,2] TK Q ?_)
 refine fE [0,1,2] hm (dJ ·) Q Q Q Q λr3 hm=>VE hm λe4 he4 hm=>DX [0,1,2] Q Q (bR TK Q Q Q Q he4) ?_;iterate 2 (refine DA [0,1,2] TK Q ?_)
 refine DT ?_ (by kernel_rfl);refine aG 3 Q (WN [0,1,4,5,6] Q Q (aM 7 Q (c_N hm (bQ ·) Q Q Q Q λr5 hm=>aH 2 Q (BE hm λr6 hr6 hm=>?_))));refine SX Q Q (aK [0,1] ⟨Q,Q,λ_=>Q⟩ Q Q Q (by decide) Q (aF Q) Q Q (cX hr6)) ?_;refine aH 2 Q (BE hm λr7 hr7 hm=>?_);refine SX Q Q (aK [0,1] ⟨Q,Q,λ_=>Q⟩ Q Q Q (by decide) Q (aF Q) Q Q (cY hr7)) ?_;refine c_D hm (dZ ·) Q Q Q Q λr8 hm=>aH 2 Q (BE hm λr9 hr9 hm=>?_);refine SX Q Q (aK [0,1] ⟨Q,Q,λ_=>Q⟩ Q Q Q (by decide) Q (aF Q) Q Q (lQ hr9)) ?_;refine c_D hm (dZ ·) Q Q Q Q λr10 hm=>SX Q Q (bJ (f:=Ad.Aq) (xs:=([r6,r8,r10]:List Ad)) [.tmp 39,.tmp 43,.tmp 47] TK Q Q aJ Q (bF Q (aE (Ad.Ai _) (aE (Ad.Ai _) (aE (Ad.Ai _) aS)))) Q (aO Ad.Ak) Q) (c_D hm (dK ·) Q Q Q Q λr11 hm=>BE hm λr12 hr12 hm=>?_);refine dE [0,1] (λj=>Nat.beq j 1) Q Q Q (by decide) Q Q Q Q (eB hr12) Q Q Q ?_;refine aG 2 Q (WN [0,1,4,5,6] Q Q (bV follows ?_));iterate 6 (refine DA [0,1,2] TK Q ?_)
 refine fE [0,1,2] hm (bQ ·) Q Q Q Q λr13 hm=>?_;iterate 2 (refine DA [0,1,2] TK Q ?_)
 refine BE hm λr14 hr14 hm=>?_;refine DX [0,1,2] Q Q (aK [0,1] ⟨Q,Q,λ_=>Q⟩ Q Q Q (by decide) Q (aF Q) Q Q (cX hr14)) ?_;iterate 2 (refine DA [0,1,2] TK Q ?_)
 refine BE hm λr15 hr15 hm=>?_;refine DX [0,1,2] Q Q (aK [0,1] ⟨Q,Q,λ_=>Q⟩ Q Q Q (by decide) Q (aF Q) Q Q (dN hr15)) ?_;refine cL [0,1,2] hm (dZ ·) Q Q Q Q λr16 hm=>DX [0,1,2] Q Q (bJ (f:=Ad.Aq) (xs:=([r14,r16]:List Ad)) [.tmp 60,.tmp 64] TK Q Q aJ Q (bF Q (aE (Ad.Ai _) (aE (Ad.Ai _) aS))) Q (aO Ad.Ak) Q) (cL [0,1,2] hm (dK ·) Q Q Q Q λr17 hm=>?_);iterate 2 (refine DA [0,1,2] TK Q ?_)
 refine BE hm λr18 hr18 hm=>?_;refine DX [0,1,2] Q Q (aK [0,1] ⟨Q,Q,λ_=>Q⟩ Q Q Q (by decide) Q (aF Q) Q Q (cX hr18)) ?_;iterate 2 (refine DA [0,1,2] TK Q ?_)
 refine BE hm λr19 hr19 hm=>?_;refine DX [0,1,2] Q Q (aK [0,1] ⟨Q,Q,λ_=>Q⟩ Q Q Q (by decide) Q (aF Q) Q Q (cY hr19)) ?_;refine cL [0,1,2] hm (dZ ·) Q Q Q Q λr20 hm=>?_;iterate 2 (refine DA [0,1,2] TK Q ?_)
 refine BE hm λr21 hr21 hm=>?_;refine DX [0,1,2] Q Q (aK [0,1] ⟨Q,Q,λ_=>Q⟩ Q Q Q (by decide) Q (aF Q) Q Q (cY hr21)) ?_;iterate 2 (refine DA [0,1,2] TK Q ?_)
 refine BE hm λr22 hr22 hm=>?_;refine DX [0,1,2] Q Q (aK [0,1] ⟨Q,Q,λ_=>Q⟩ Q Q Q (by decide) Q (aF Q) Q Q (lB hr22)) ?_;refine DX [0,1,2] Q Q (bJ (f:=Ad.Aq) (xs:=([r21,r22]:List Ad)) [.tmp 76,.tmp 79] TK Q Q aJ Q (bF Q (aE (Ad.Ai _) (aE (Ad.Ai _) aS))) Q (aO Ad.Ak) Q) (cL [0,1,2] hm (dK ·) Q Q Q Q λr23 hm=>cL [0,1,2] hm (dZ ·) Q Q Q Q λr24 hm=>?_);iterate 2 (refine DA [0,1,2] TK Q ?_)
 refine BE hm λr25 hr25 hm=>?_;refine DX [0,1,2] Q Q (aK [0,1] ⟨Q,Q,λ_=>Q⟩ Q Q Q (by decide) Q (aF Q) Q Q (oE hr25)) ?_;iterate 2 (refine DA [0,1,2] TK Q ?_)
 refine BE hm λr26 hr26 hm=>?_;refine DX [0,1,2] Q Q (aK [0,1] ⟨Q,Q,λ_=>Q⟩ Q Q Q (by decide) Q (aF Q) Q Q (dN hr26)) ?_;refine DX [0,1,2] Q Q (bJ (f:=Ad.Aq) (xs:=([r25,r26]:List Ad)) [.tmp 85,.tmp 88] TK Q Q aJ Q (bF Q (aE (Ad.Ai _) (aE (Ad.Ai _) aS))) Q (aO Ad.Ak) Q) (cL [0,1,2] hm (dK ·) Q Q Q Q λr27 hm=>cL [0,1,2] hm (dZ ·) Q Q Q Q λr28 hm=>?_);iterate 5 (refine DA [0,1,2] TK Q ?_)
 refine fE [0,1,2] hm (nT ·) Q Q Q Q λr29 hm=>cL [0,1,2] hm (cW ·) Q Q Q Q λr30 hm=>cL [0,1,2] hm (dZ ·) Q Q Q Q λr31 hm=>DX [0,1,2] Q Q (bJ (f:=Ad.Aq) (xs:=([r24,r28,r31]:List Ad)) [.tmp 82,.tmp 91,.tmp 99] TK Q Q aJ Q (bF Q (aE (Ad.Ai _) (aE (Ad.Ai _) (aE (Ad.Ai _) aS)))) Q (aO Ad.Ak) Q) (cL [0,1,2] hm (dK ·) Q Q Q Q λr32 hm=>DX [0,1,2] Q Q (bJ (f:=Ad.Aq) (xs:=([r20,r32]:List Ad)) [.tmp 73,.tmp 101] TK Q Q aJ Q (bF Q (aE (Ad.Ai _) (aE (Ad.Ai _) aS))) Q (aO Ad.Ak) Q) (cL [0,1,2] hm (eT ·) Q Q Q Q λr33 hm=>DX [0,1,2] Q Q (bJ (f:=Ad.Aq) (xs:=([r18,r33]:List Ad)) [.tmp 69,.tmp 103] TK Q Q aJ Q (bF Q (aE (Ad.Ai _) (aE (Ad.Ai _) aS))) Q (aO Ad.Ak) Q) (cL [0,1,2] hm (dK ·) Q Q Q Q λr34 hm=>?_)));iterate 2 (refine DA [0,1,2] TK Q ?_)
 refine BE hm λr35 hr35 hm=>?_;refine DX [0,1,2] Q Q (aK [0,1] ⟨Q,Q,λ_=>Q⟩ Q Q Q (by decide) Q (aF Q) Q Q (cX hr35)) ?_;iterate 2 (refine DA [0,1,2] TK Q ?_)
 refine BE hm λr36 hr36 hm=>?_;refine DX [0,1,2] Q Q (aK [0,1] ⟨Q,Q,λ_=>Q⟩ Q Q Q (by decide) Q (aF Q) Q Q (nU hr36)) ?_;refine cL [0,1,2] hm (dZ ·) Q Q Q Q λr37 hm=>DX [0,1,2] Q Q (bJ (f:=Ad.Aq) (xs:=([r35,r37]:List Ad)) [.tmp 108,.tmp 112] TK Q Q aJ Q (bF Q (aE (Ad.Ai _) (aE (Ad.Ai _) aS))) Q (aO Ad.Ak) Q) (cL [0,1,2] hm (dK ·) Q Q Q Q λr38 hm=>DX [0,1,2] Q Q (bJ (f:=Ad.Aq) (xs:=([r17,r34,r38]:List Ad)) [.tmp 66,.tmp 105,.tmp 114] TK Q Q aJ Q (bF Q (aE (Ad.Ai _) (aE (Ad.Ai _) (aE (Ad.Ai _) aS)))) Q (aO Ad.Ak) Q) (cL [0,1,2] hm (eT ·) Q Q Q Q λr39 hm=>?_));refine DT ?_ (by kernel_rfl);refine BE hm λr40 hr40 hm=>?_;refine dE [0,1] (λj=>Nat.beq j 1) Q Q Q (by decide) Q Q Q Q (eB hr40) Q Q Q ?_;refine aG 2 Q (WN [0,1,4,5] Q Q (bV follows ?_));iterate 6 (refine DA [0,1,2] TK Q ?_)
 refine fE [0,1,2] hm (bQ ·) Q Q Q Q λr41 hm=>?_;iterate 2 (refine DA [0,1,2] TK Q ?_)
 refine BE hm λr42 hr42 hm=>?_;refine DX [0,1,2] Q Q (aK [0,1] ⟨Q,Q,λ_=>Q⟩ Q Q Q (by decide) Q (aF Q) Q Q (cX hr42)) ?_;iterate 2 (refine DA [0,1,2] TK Q ?_)
 refine BE hm λr43 hr43 hm=>?_;refine DX [0,1,2] Q Q (aK [0,1] ⟨Q,Q,λ_=>Q⟩ Q Q Q (by decide) Q (aF Q) Q Q (dN hr43)) ?_;iterate 2 (refine DA [0,1,2] TK Q ?_)
 refine BE hm λr44 hr44 hm=>?_;refine DX [0,1,2] Q Q (aK [0,1] ⟨Q,Q,λ_=>Q⟩ Q Q Q (by decide) Q (aF Q) Q Q (cY hr44)) ?_;iterate 2 (refine DA [0,1,2] TK Q ?_)
 refine BE hm λr45 hr45 hm=>?_;refine DX [0,1,2] Q Q (aK [0,1] ⟨Q,Q,λ_=>Q⟩ Q Q Q (by decide) Q (aF Q) Q Q (cY hr45)) ?_;iterate 3 (refine DA [0,1,2] TK Q ?_)
 refine BE hm λr46 hr46 hm=>?_;refine DX [0,1,2] Q Q (aK [0,1] ⟨Q,Q,λ_=>Q⟩ Q Q Q (by decide) Q (aF Q) Q Q (dN hr46)) ?_;refine DX [0,1,2] Q Q (bJ (f:=Ad.Aq) (xs:=([r44,r45,r46]:List Ad)) [.tmp 133,.tmp 136,.tmp 140] TK Q Q aJ Q (bF Q (aE (Ad.Ai _) (aE (Ad.Ai _) (aE (Ad.Ai _) aS)))) Q (aO Ad.Ak) Q) (cL [0,1,2] hm (dK ·) Q Q Q Q λr47 hm=>cL [0,1,2] hm (dZ ·) Q Q Q Q λr48 hm=>?_);iterate 2 (refine DA [0,1,2] TK Q ?_)
 refine BE hm λr49 hr49 hm=>?_;refine DX [0,1,2] Q Q (aK [0,1] ⟨Q,Q,λ_=>Q⟩ Q Q Q (by decide) Q (aF Q) Q Q (cY hr49)) ?_;iterate 2 (refine DA [0,1,2] TK Q ?_)
 refine BE hm λr50 hr50 hm=>?_;refine DX [0,1,2] Q Q (aK [0,1] ⟨Q,Q,λ_=>Q⟩ Q Q Q (by decide) Q (aF Q) Q Q (lQ hr50)) ?_;refine cL [0,1,2] hm (dZ ·) Q Q Q Q λr51 hm=>DX [0,1,2] Q Q (bJ (f:=Ad.Aq) (xs:=([r49,r51]:List Ad)) [.tmp 146,.tmp 150] TK Q Q aJ Q (bF Q (aE (Ad.Ai _) (aE (Ad.Ai _) aS))) Q (aO Ad.Ak) Q) (cL [0,1,2] hm (eT ·) Q Q Q Q λr52 hm=>DX [0,1,2] Q Q (bJ (f:=Ad.Aq) (xs:=([r42,r43,r48,r52]:List Ad)) [.tmp 127,.tmp 130,.tmp 143,.tmp 152] TK Q Q aJ Q (bF Q (aE (Ad.Ai _) (aE (Ad.Ai _) (aE (Ad.Ai _) (aE (Ad.Ai _) aS))))) Q (aO Ad.Ak) Q) (cL [0,1,2] hm (dK ·) Q Q Q Q λr53 hm=>?_));iterate 2 (refine DA [0,1,2] TK Q ?_)
 refine BE hm λr54 hr54 hm=>?_;refine DX [0,1,2] Q Q (aK [0,1] ⟨Q,Q,λ_=>Q⟩ Q Q Q (by decide) Q (aF Q) Q Q (cX hr54)) ?_;iterate 2 (refine DA [0,1,2] TK Q ?_)
 refine BE hm λr55 hr55 hm=>?_;refine DX [0,1,2] Q Q (aK [0,1] ⟨Q,Q,λ_=>Q⟩ Q Q Q (by decide) Q (aF Q) Q Q (cY hr55)) ?_;iterate 2 (refine DA [0,1,2] TK Q ?_)
 refine BE hm λr56 hr56 hm=>?_;refine DX [0,1,2] Q Q (aK [0,1] ⟨Q,Q,λ_=>Q⟩ Q Q Q (by decide) Q (aF Q) Q Q (cY hr56)) ?_;iterate 2 (refine DA [0,1,2] TK Q ?_)
 refine BE hm λr57 hr57 hm=>?_;refine DX [0,1,2] Q Q (aK [0,1] ⟨Q,Q,λ_=>Q⟩ Q Q Q (by decide) Q (aF Q) Q Q (lB hr57)) ?_;refine DX [0,1,2] Q Q (bJ (f:=Ad.Aq) (xs:=([r54,r55,r56,r57]:List Ad)) [.tmp 157,.tmp 160,.tmp 163,.tmp 166] TK Q Q aJ Q (bF Q (aE (Ad.Ai _) (aE (Ad.Ai _) (aE (Ad.Ai _) (aE (Ad.Ai _) aS))))) Q (aO Ad.Ak) Q) (cL [0,1,2] hm (dK ·) Q Q Q Q λr58 hm=>?_);iterate 2 (refine DA [0,1,2] TK Q ?_)
 refine BE hm λr59 hr59 hm=>?_;refine DX [0,1,2] Q Q (aK [0,1] ⟨Q,Q,λ_=>Q⟩ Q Q Q (by decide) Q (aF Q) Q Q (cX hr59)) ?_;iterate 2 (refine DA [0,1,2] TK Q ?_)
 refine BE hm λr60 hr60 hm=>?_;refine DX [0,1,2] Q Q (aK [0,1] ⟨Q,Q,λ_=>Q⟩ Q Q Q (by decide) Q (aF Q) Q Q (nU hr60)) ?_;iterate 5 (refine DA [0,1,2] TK Q ?_)
 refine fE [0,1,2] hm (lP ·) Q Q Q Q λr61 hm=>cL [0,1,2] hm (cW ·) Q Q Q Q λr62 hm=>cL [0,1,2] hm (dZ ·) Q Q Q Q λr63 hm=>DX [0,1,2] Q Q (bJ (f:=Ad.Aq) (xs:=([r59,r60,r63]:List Ad)) [.tmp 171,.tmp 174,.tmp 182] TK Q Q aJ Q (bF Q (aE (Ad.Ai _) (aE (Ad.Ai _) (aE (Ad.Ai _) aS)))) Q (aO Ad.Ak) Q) (cL [0,1,2] hm (dK ·) Q Q Q Q λr64 hm=>DX [0,1,2] Q Q (bJ (f:=Ad.Aq) (xs:=([r53,r58,r64]:List Ad)) [.tmp 154,.tmp 168,.tmp 184] TK Q Q aJ Q (bF Q (aE (Ad.Ai _) (aE (Ad.Ai _) (aE (Ad.Ai _) aS)))) Q (aO Ad.Ak) Q) (cL [0,1,2] hm (eT ·) Q Q Q Q λr65 hm=>?_));refine DT ?_ (by kernel_rfl);refine BE hm λr66 hr66 hm=>?_;refine dE [0,1] (λj=>Nat.beq j 1) Q Q Q (by decide) Q Q Q Q (eB hr66) Q Q Q ?_;refine aG 2 Q (WN [0,1] Q Q (cU follows ?_));iterate 6 (refine DA [0,1,2] TK Q ?_)
 refine fE [0,1,2] hm (bQ ·) Q Q Q Q λr67 hm=>?_;iterate 5 (refine DA [0,1,2] TK Q ?_)
 refine fE [0,1,2] hm (bQ ·) Q Q Q Q λr68 hm=>cL [0,1,2] hm (cW ·) Q Q Q Q λr69 hm=>?_;iterate 2 (refine DA [0,1,2] TK Q ?_)
 refine BE hm λr70 hr70 hm=>?_;refine DX [0,1,2] Q Q (aK [0,1] ⟨Q,Q,λ_=>Q⟩ Q Q Q (by decide) Q (aF Q) Q Q (oD hr70)) ?_;iterate 5 (refine DA [0,1,2] TK Q ?_)
 refine fE [0,1,2] hm (bQ ·) Q Q Q Q λr71 hm=>cL [0,1,2] hm (cW ·) Q Q Q Q λr72 hm=>?_;iterate 5 (refine DA [0,1,2] TK Q ?_)
 refine fE [0,1,2] hm (bQ ·) Q Q Q Q λr73 hm=>cL [0,1,2] hm (cW ·) Q Q Q Q λr74 hm=>DX [0,1,2] Q Q (bJ (f:=Ad.Aq) (xs:=([r69,r70,r72,r74]:List Ad)) [.tmp 201,.tmp 204,.tmp 211,.tmp 218] TK Q Q aJ Q (bF Q (aE (Ad.Ai _) (aE (Ad.Ai _) (aE (Ad.Ai _) (aE (Ad.Ai _) aS))))) Q (aO Ad.Ak) Q) (cL [0,1,2] hm (eT ·) Q Q Q Q λr75 hm=>?_);refine DT ?_ (by kernel_rfl);refine BE hm λr76 hr76 hm=>?_;refine dE [0,1] (λj=>Nat.beq j 1) Q Q Q (by decide) Q Q Q Q (eB hr76) Q Q Q ?_;refine aI 1 Q ?_;obtain rfl:=OJ hm;exact⟨_,[0,1],res Q,by decide,(kB Q),Q,Q⟩
theorem wZ {p0:Au} {p1:Int} {r:Au} (hm:jE p0 p1=some r):Ret TP 85 [.box 135 [.d (.sl 14 (p0.Ab.t.Ac.map Aj.enc)),.d (.sl 1 (p0.Ab.t.Ae.map (D.int .i64))),.d (.sl 1 (p0.Ab.t.As.map (D.int .i64))),.d (.int .i64 p0.Ab.t.Aa),.d (.int .i64 p0.Ab.t.Al),.d (.int .i64 p0.Ab.inputs),.d (.sl 1 (p0.Ab.A1.map (D.int .i64))),.d (.int .i64 p0.Ab.extra),.d (.int .i64 p0.Ab.count),.msl 1 6 0 p0.An.length],.flat 64 6 (p0.An.map At.enc)] (λj=>Nat.beq j 1) [.mptr 0 0 0 0,.d (.int .i64 p1)] (.tup []) [.box 135 [.d (.sl 14 (p0.Ab.t.Ac.map Aj.enc)),.d (.sl 1 (p0.Ab.t.Ae.map (D.int .i64))),.d (.sl 1 (p0.Ab.t.As.map (D.int .i64))),.d (.int .i64 p0.Ab.t.Aa),.d (.int .i64 p0.Ab.t.Al),.d (.int .i64 p0.Ab.inputs),.d (.sl 1 (p0.Ab.A1.map (D.int .i64))),.d (.int .i64 p0.Ab.extra),.d (.int .i64 p0.Ab.count),.msl 1 6 0 r.An.length],.flat 64 6 (r.An.map At.enc)]:=by
 refine cA (bA Q) func85 Q ntmps85 Q Q (λwX gX=>?_);unfold jE at hm;refine WN [0,1] Q Q (aP 8 Q (VE hm λe1 he1 hm=>SX Q Q (bR TK Q Q Q Q he1) (aG 5 Q (aL hm (λb2=>[]) (λb2=>([(0,.box 135 [.d (.sl 14 (p0.Ab.t.Ac.map Aj.enc)),.d (.sl 1 (p0.Ab.t.Ae.map (D.int .i64))),.d (.sl 1 (p0.Ab.t.As.map (D.int .i64))),.d (.int .i64 p0.Ab.t.Aa),.d (.int .i64 p0.Ab.t.Al),.d (.int .i64 p0.Ab.inputs),.d (.sl 1 (p0.Ab.A1.map (D.int .i64))),.d (.int .i64 p0.Ab.extra),.d (.int .i64 p0.Ab.count),.msl 1 6 0 b2.length]),(1,.flat 64 6 (b2.map At.enc))])) [] [0,1] Q (λz3 hm=>?_) (λb2 hm=>?_)))))
 ·refine aP 6 Q (c_N hm (dJ ·) Q Q Q Q λr4 hm=>GE hm λg5 hm=>SX Q Q (aZ Q Q Q Q g5) (aG 3 Q (WN [0,1,4,5] Q Q (cR 1 Q (aT hm (λ(k9,b10)=>([(5,.d (.int .i64 k9))])) (λ(k9,b10)=>([(0,.box 135 [.d (.sl 14 (p0.Ab.t.Ac.map Aj.enc)),.d (.sl 1 (p0.Ab.t.Ae.map (D.int .i64))),.d (.sl 1 (p0.Ab.t.As.map (D.int .i64))),.d (.int .i64 p0.Ab.t.Aa),.d (.int .i64 p0.Ab.t.Al),.d (.int .i64 p0.Ab.inputs),.d (.sl 1 (p0.Ab.A1.map (D.int .i64))),.d (.int .i64 p0.Ab.extra),.d (.int .i64 p0.Ab.count),.msl 1 6 0 b10.length]),(1,.flat 64 6 (b10.map At.enc))])) [5] [0,1,4] [0,1] Q (kB Q) Q Q Q Q Q (λs z11 hm hz11=>?_))))));obtain⟨k9,b10⟩:=s;refine WN [0,1,4,5] Q Q (bK 6 Q (bG hm Q (λh12 hm=>?_) (λh12 hm=>?_)))
  ·refine cR 4 Q (bV follows ?_);iterate 2 (refine DA [0,1] TK Q ?_)
   refine BE hm λr13 hr13 hm=>?_;refine DX [0,1] Q Q (aK [0,1] ⟨Q,Q,λ_=>Q⟩ Q Q Q (by decide) Q (aF Q) Q Q (cX hr13)) ?_;iterate 5 (refine DA [0,1] TK Q ?_)
   refine fE [0,1] hm (bQ ·) Q Q Q Q λr14 hm=>cL [0,1] hm (cW ·) Q Q Q Q λr15 hm=>?_;iterate 2 (refine DA [0,1] TK Q ?_)
   refine BE hm λr16 hr16 hm=>?_;refine DX [0,1] Q Q (aK [0,1] ⟨Q,Q,λ_=>Q⟩ Q Q Q (by decide) Q (aF Q) Q Q (cY hr16)) ?_;iterate 3 (refine DA [0,1] TK Q ?_)
   refine VE hm λe17 he17 hm=>DX [0,1] Q Q (bR TK Q Q Q Q he17) (DA [0,1] TK Q (BE hm λr18 hr18 hm=>?_));refine DX [0,1] Q Q (aK [0,1] ⟨Q,Q,λ_=>Q⟩ Q Q Q (by decide) Q (aF Q) Q Q (dN hr18)) ?_;iterate 3 (refine DA [0,1] TK Q ?_)
   refine GE hm λg19 hm=>DX [0,1] Q Q (aZ Q Q Q Q g19) (VE hm λe20 he20 hm=>DX [0,1] Q Q (bR TK Q Q Q Q he20) (DA [0,1] TK Q (BE hm λr21 hr21 hm=>?_)));refine DX [0,1] Q Q (aK [0,1] ⟨Q,Q,λ_=>Q⟩ Q Q Q (by decide) Q (aF Q) Q Q (dN hr21)) ?_;refine cL [0,1] hm (dZ ·) Q Q Q Q λr22 hm=>?_;iterate 2 (refine DA [0,1] TK Q ?_)
   refine BE hm λr23 hr23 hm=>?_;refine DX [0,1] Q Q (aK [0,1] ⟨Q,Q,λ_=>Q⟩ Q Q Q (by decide) Q (aF Q) Q Q (cY hr23)) ?_;refine DX [0,1] Q Q (bJ (f:=Ad.Aq) (xs:=([r22,r23]:List Ad)) [.tmp 54,.tmp 57] TK Q Q aJ Q (bF Q (aE (Ad.Ai _) (aE (Ad.Ai _) aS))) Q (aO Ad.Ak) Q) (cL [0,1] hm (eT ·) Q Q Q Q λr24 hm=>?_);refine DT ?_ (by kernel_rfl);refine qFS (f:=Ad.Aq) 2 [.tmp 30,.tmp 37,.tmp 40,.tmp 46,.tmp 59] ([r13,r15,r16,r18,r24]:List Ad) TK Q Q Q aJ Q (bF Q (aE (Ad.Ai _) (aE (Ad.Ai _) (aE (Ad.Ai _) (aE (Ad.Ai _) (aE (Ad.Ai _) aS)))))) Q (aO Ad.Ak) Q (aG 3 Q (WN [0,1,4,5,6] Q Q (aL hm (λb25=>([(6,.msl 2 3 0 b25.length)])) (λb25=>([(2,.flat 40 3 (b25.map Ad.Aq))])) [6] [0,1,4,5] Q (λz26 hm=>?_) (λb25 hm=>?_))))
   ·refine bK 5 Q (bG hm Q (λh27 hm=>?_) (λh27 hm=>?_))
    ·refine aM 5 Q (GE hm λg28 hm=>SX Q Q (aZ Q Q Q Q g28) (BE hm λr29 hr29 hm=>?_));refine SX Q Q (aK [0,1] ⟨Q,Q,λ_=>Q⟩ Q Q Q (by decide) Q (aF Q) Q Q (fY hr29)) ?_;refine SX Q Q (bJ (f:=Ad.Aq) (xs:=([r29]:List Ad)) [.tmp 68] TK Q Q aJ Q (bF Q (aE (Ad.Ai _) aS)) Q (aO Ad.Ak) Q) (GE hm λg30 hm=>?_);refine cF (f:=Ad.Aq) ([r29]:List Ad) TK Q Q aJ Q Q Q Q Q (λh=>absurd (show 2 < 2 from h) (by decide)) Q bZ g30 Q Q ?_;exact aI 2 Q (e_j [0,1,2] hm Q (kB Q) Q)
    exact aQ 1 Q (e_j [0,1,2] hm Q (kB Q) Q)
   refine WN [0,1,4,5,6] Q Q ?_;refine kM 6 2 [0,1,4,5] Q Q Q Q Q (by simp) Q Q ?_;refine cU follows ?_;iterate 7 (refine DA [0,1,2] TK Q ?_)
   refine GE hm λg31 hm=>DX [0,1,2] Q Q (aZ Q Q Q Q g31) (fE [0,1,2] hm (eO ·) Q Q Q Q λr32 hm=>?_);iterate 5 (refine DA [0,1,2] TK Q ?_)
   refine fE [0,1,2] hm (bQ ·) Q Q Q Q λr33 hm=>cL [0,1,2] hm (cW ·) Q Q Q Q λr34 hm=>?_;iterate 5 (refine DA [0,1,2] TK Q ?_)
   refine fE [0,1,2] hm (bQ ·) Q Q Q Q λr35 hm=>cL [0,1,2] hm (cW ·) Q Q Q Q λr36 hm=>DX [0,1,2] Q Q (bJ (f:=Ad.Aq) (xs:=([r34,r36]:List Ad)) [.tmp 86,.tmp 93] TK Q Q aJ Q (bF Q (aE (Ad.Ai _) (aE (Ad.Ai _) aS))) Q (aO Ad.Ak) Q) (cL [0,1,2] hm (eT ·) Q Q Q Q λr37 hm=>?_);iterate 3 (refine DA [0,1,2] TK Q ?_)
   refine BE hm λr38 hr38 hm=>?_;refine DX [0,1,2] Q Q (aK [0,1] ⟨Q,Q,λ_=>Q⟩ Q Q Q (by decide) Q (aF Q) Q Q (fY hr38)) ?_;refine DA [0,1,2] TK Q (cL [0,1,2] hm (dK ·) Q Q Q Q λr39 hm=>DX [0,1,2] Q Q (bJ (f:=Ad.Aq) (xs:=([r38,r39]:List Ad)) [.tmp 99,.tmp 101] TK Q Q aJ Q (bF Q (aE (Ad.Ai _) (aE (Ad.Ai _) aS))) Q (aO Ad.Ak) Q) (cL [0,1,2] hm (eT ·) Q Q Q Q λr40 hm=>DX [0,1,2] Q Q (bJ (f:=Ad.Aq) (xs:=([r37,r40]:List Ad)) [.tmp 95,.tmp 103] TK Q Q aJ Q (bF Q (aE (Ad.Ai _) (aE (Ad.Ai _) aS))) Q (aO Ad.Ak) Q) (cL [0,1,2] hm (dK ·) Q Q Q Q λr41 hm=>?_)));refine DT ?_ (by kernel_rfl);refine BE hm λr42 hr42 hm=>?_;refine dE [0,1] (λj=>Nat.beq j 1) Q Q Q (by decide) Q Q Q Q (eB hr42) Q Q Q ?_;exact aG 3 Q (WN [0,1,4,5] Q Q (aM 2 Q (GE hm λg43 hm=>SX Q Q (aZ Q Q Q Q g43) (aI 2 Q (e_l [0,1] hm Q (kB Q) Q)))))
  refine aQ 2 Q (IE hm λv44 hm hz=>?_);rw [hz11 _ hz] at hm;exact WX (bP 1 Q (e_j [0,1] hm Q (kB Q) Q))
 refine WN [0,1] Q Q (aM 7 Q (c_N hm (eO ·) Q Q Q Q λr45 hm=>aH 2 Q (BE hm λr46 hr46 hm=>?_)));refine SX Q Q (aK [0,1] ⟨Q,Q,λ_=>Q⟩ Q Q Q (by decide) Q (aF Q) Q Q (oD hr46)) ?_;refine BE hm λr47 hr47 hm=>?_;refine dE [0,1] (λj=>Nat.beq j 1) Q Q Q (by decide) Q Q Q Q (eB hr47) Q Q Q ?_;refine aG 2 Q (bV follows ?_);iterate 6 (refine DA [0,1] TK Q ?_)
 refine fE [0,1] hm (eO ·) Q Q Q Q λr48 hm=>?_;iterate 5 (refine DA [0,1] TK Q ?_)
 refine fE [0,1] hm (bQ ·) Q Q Q Q λr49 hm=>cL [0,1] hm (cW ·) Q Q Q Q λr50 hm=>?_;refine DT ?_ (by kernel_rfl);refine BE hm λr51 hr51 hm=>?_;refine dE [0,1] (λj=>Nat.beq j 1) Q Q Q (by decide) Q Q Q Q (eB hr51) Q Q Q ?_;refine aG 2 Q (WN [0,1] Q Q (cU follows ?_));iterate 6 (refine DA [0,1] TK Q ?_)
 refine fE [0,1] hm (eO ·) Q Q Q Q λr52 hm=>?_;iterate 5 (refine DA [0,1] TK Q ?_)
 refine fE [0,1] hm (bQ ·) Q Q Q Q λr53 hm=>cL [0,1] hm (cW ·) Q Q Q Q λr54 hm=>?_;refine DT ?_ (by kernel_rfl);refine BE hm λr55 hr55 hm=>?_;refine dE [0,1] (λj=>Nat.beq j 1) Q Q Q (by decide) Q Q Q Q (eB hr55) Q Q Q ?_;refine aI 1 Q ?_;obtain rfl:=OJ hm;exact⟨_,[0,1],res Q,by decide,(kB Q),Q,Q⟩
theorem kL {p0:Int} {p1:Au} {p2:Int} {p3:Bool} {p4:(List Int)} {r0:Bool} {r1:(List Int)} (hm:cQ p0 p1 p2 p3 p4=some (r0,r1)):Ret TP 234 [.box 185 [.mptr 1 0 0 0],.box 135 [.d (.sl 14 (p1.Ab.t.Ac.map Aj.enc)),.d (.sl 1 (p1.Ab.t.Ae.map (D.int .i64))),.d (.sl 1 (p1.Ab.t.As.map (D.int .i64))),.d (.int .i64 p1.Ab.t.Aa),.d (.int .i64 p1.Ab.t.Al),.d (.int .i64 p1.Ab.inputs),.d (.sl 1 (p1.Ab.A1.map (D.int .i64))),.d (.int .i64 p1.Ab.extra),.d (.int .i64 p1.Ab.count),.msl 2 6 0 p1.An.length],.flat 64 6 (p1.An.map At.enc),.box 3 [.d (.int .i64 p2)],.box 4 [.d (.bool (p3))],.box 23 [.msl 6 1 0 p4.length],.flat 3 1 (p4.map (D.int .i64))] (λj=>Nat.beq j 6) [.d (.int .i64 p0),.mptr 0 0 0 0,.mptr 3 0 0 0,.mptr 4 0 0 0,.mptr 5 0 0 0] (.tup []) [.box 185 [.mptr 1 0 0 0],.box 135 [.d (.sl 14 (p1.Ab.t.Ac.map Aj.enc)),.d (.sl 1 (p1.Ab.t.Ae.map (D.int .i64))),.d (.sl 1 (p1.Ab.t.As.map (D.int .i64))),.d (.int .i64 p1.Ab.t.Aa),.d (.int .i64 p1.Ab.t.Al),.d (.int .i64 p1.Ab.inputs),.d (.sl 1 (p1.Ab.A1.map (D.int .i64))),.d (.int .i64 p1.Ab.extra),.d (.int .i64 p1.Ab.count),.msl 2 6 0 p1.An.length],.flat 64 6 (p1.An.map At.enc),.box 3 [.d (.int .i64 p2)],.box 4 [.d (.bool (r0))],.box 23 [.msl 6 1 0 r1.length],.flat 3 1 (r1.map (D.int .i64))]:=by
 refine cA (bA Q) func234 Q ntmps234 Q Q (λwX gX=>?_);unfold cQ at hm;refine WN [0,1,2,3,4] Q Q (aL hm (λx1=>([(17,.d (.bool (x1)))])) (λx1=>[]) [17] [0,3,4] Q (λz2 hm=>?_) (λx1 hm=>?_))
 ·refine iW follows ?_;iterate 2 (refine DA [0,1,2,3,4,5,6] TK Q ?_)
  refine d_b [0,1,2,3,4,5,6] TK Q (λq3 hq3=>?_);cases q3
  ·replace hm:=JF hq3 hm;iterate 6 (refine DA [0,1,2,3,4,5,6] TK Q ?_)
   refine fE [0,1,2,3,4,5,6] hm (dJ ·) Q Q Q Q λr4 hm=>?_;iterate 2 (refine DA [0,1,2,3,4,5,6] TK Q ?_)
   refine DT ?_ (by kernel_rfl);exact aI 1 Q (e_j [0,1,2,3,4,5,6] hm Q (kB Q) Q)
  replace hm:=JT hq3 hm;iterate 9 (refine DA [0,1,2,3,4,5,6] TK Q ?_)
  refine DT ?_ (by kernel_rfl);exact aI 1 Q (e_j [0,1,2,3,4,5,6] hm Q (kB Q) Q)
 refine WN [0,3,4,17] Q Q (cP hm Q (λh5 hm=>?_) (λh5 hm=>?_))
 ·refine r_px 3 Q ?_;obtain⟨rfl,rfl⟩:=Prod.mk.inj (Option.some.inj hm);exact⟨_,[0,1,2,3,4,5,6],res Q,by decide,(kB Q),Q,Q⟩
 refine aP 3 Q (BE hm λr6 hr6 hm=>SX Q Q (RN Q Q (SC (dA Q) (qU Q)) (mZ hr6)) (aG 3 Q (cP hm Q (λh7 hm=>?_) (λh7 hm=>?_))))
 ·refine aM 3 Q (SX Q Q (cM [.tmp 23] TK Q Q gR Q Q Q Q Q) (GE hm λg8 hm=>cF (f:=(D.int .i64)) ([p0]:List Int) TK Q Q gR Q Q Q Q Q (λ_=>Q) Q bZ g8 Q Q (aI 2 Q ?_)));obtain⟨rfl,rfl⟩:=Prod.mk.inj (Option.some.inj hm);exact⟨_,[0,1,2,3,4,5,6],res Q,by decide,(kB Q),Q,Q⟩
 refine aQ 1 Q ?_;obtain⟨rfl,rfl⟩:=Prod.mk.inj (Option.some.inj hm);exact⟨_,[0,1,2,3,4,5,6],res Q,by decide,(kB Q),Q,Q⟩
theorem vT {p0:Au} {p1:Int} {p2:Int} {r0:Bool} {r1:(List Int)} (hm:iU p0 p1 p2=some (r0,r1)):Ret TP 215 [.box 135 [.d (.sl 14 (p0.Ab.t.Ac.map Aj.enc)),.d (.sl 1 (p0.Ab.t.Ae.map (D.int .i64))),.d (.sl 1 (p0.Ab.t.As.map (D.int .i64))),.d (.int .i64 p0.Ab.t.Aa),.d (.int .i64 p0.Ab.t.Al),.d (.int .i64 p0.Ab.inputs),.d (.sl 1 (p0.Ab.A1.map (D.int .i64))),.d (.int .i64 p0.Ab.extra),.d (.int .i64 p0.Ab.count),.msl 1 6 0 p0.An.length],.flat 64 6 (p0.An.map At.enc)] (λ_=>false) [.mptr 0 0 0 0,.d (.int .i64 p1),.d (.int .i64 p2)] (.tup [.d (.bool (r0)),.d (.sl 1 (r1.map (D.int .i64)))]) [.box 135 [.d (.sl 14 (p0.Ab.t.Ac.map Aj.enc)),.d (.sl 1 (p0.Ab.t.Ae.map (D.int .i64))),.d (.sl 1 (p0.Ab.t.As.map (D.int .i64))),.d (.int .i64 p0.Ab.t.Aa),.d (.int .i64 p0.Ab.t.Al),.d (.int .i64 p0.Ab.inputs),.d (.sl 1 (p0.Ab.A1.map (D.int .i64))),.d (.int .i64 p0.Ab.extra),.d (.int .i64 p0.Ab.count),.msl 1 6 0 p0.An.length],.flat 64 6 (p0.An.map At.enc)]:=by
 refine cA (bA Q) func215 Q ntmps215 Q Q (λwX gX=>?_);unfold iU at hm;refine WN [0,1,2] Q Q (aP 1 Q (cT 2 Q Q Q (cT 3 Q Q Q (aG 4 Q (jQ (jQ (bV follows (DA [2] TK Q ?_))))))));iterate 4 (refine DA [] TK Q ?_)
 refine DA [0] TK Q (DA [] TK Q (VE hm λe1 he1 hm=>DX [] Q Q (bR TK Q Q Q Q he1) (DA [] TK Q (DA [2] TK Q ?_))));iterate 4 (refine DA [] TK Q ?_)
 refine DA [0] TK Q (DA [3] TK Q (VE hm λe2 he2 hm=>DX [] Q Q (bR TK Q Q Q Q he2) (DA [] TK Q (qAJ [4] _ (.mptr 4 0 0 0) Q (nC Q) Q (pA Q Q fL Q Q) (qAJ [5] _ (.mptr 5 0 0 0) Q (nC Q) Q (pA Q Q fL Q Q) (zFX 1000004 [4] [(4,.box 88 [.d (.str e1.name),.d (.int .i64 e1.entry),.d (.int .i64 e1.exit),.d (.sl 3 (e1.path.map Ay.enc)),.d (.sl 2 (e1.Ae.map Ag.enc)),.d (.sl 1 (e1.Aa.map (D.int .i64))),.d (.int .i64 e1.A4),.d (.int .i64 e1.length),.d (.sl 3 (e1.over.map Ay.enc)),.d (.sl 2 (e1.Ar.map Ag.enc)),.d (.sl 1 (e1.Ah.map (D.int .i64))),.d (.sl 2 (e1.Az.map Ag.enc)),.d (.sl 1 (e1.guards.map (D.int .i64))),.d (.sl 2 (e1.gaps.map End.enc))])] (nC Q) Q (qPB TK Q Q Q Q Q Q Q Q Q Q) ?_))))));refine DT ?_ (by kernel_rfl);refine aG 3 Q (WN [3,5,8,9] Q Q (bV follows ?_));iterate 2 (refine DA [0,1,2,3,4,5] TK Q ?_)
 refine fE [0,1,2,3,4,5] hm (oP ·) Q Q Q Q λr3 hm=>?_;iterate 2 (refine DA [0,1,2,3,4,5] TK Q ?_)
 refine fE [0,1,2,3,4,5] hm (oP ·) Q Q Q Q λr4 hm=>?_;refine DT ?_ (by kernel_rfl);refine aH 5 Q (cD 6 Q Q qJG Q (aG 3 Q (WN [3,5,8,9,10,11,12] Q Q (aM 1 Q (cD 7 Q Q qJH Q (iF (f:=(D.int .i64)) 7 0 8 3 1 Q Q Q (aG 2 Q (WN [3,5,8,9,10,11,12,13] Q Q (aM 1 Q (SX Q Q (qHM Q) (aG 3 Q (aL hm (λ(c5,b6)=>[]) (λ(c5,b6)=>([(6,.box 4 [.d (.bool (c5))]),(7,.box 23 [.msl 8 1 0 b6.length]),(8,.flat 3 1 (b6.map (D.int .i64)))])) [] [3,8,9,10,11,12,13,14] Q (λz7 hm=>?_) (λj hm=>?_)))))))))))))
 ·refine aP 3 Q (SX Q Q (aU TK Q Q Q) (aG 4 Q (aT hm (λ(x12,c13,b14)=>([(52,.d (.int .i64 x12))])) (λ(x12,c13,b14)=>([(6,.box 4 [.d (.bool (c13))]),(7,.box 23 [.msl 8 1 0 b14.length]),(8,.flat 3 1 (b14.map (D.int .i64)))])) [52] [3,8,9,10,11,12,13,14,50,51] [0,1,2,3,4,5,6,7,8] Q (kB Q) Q Q Q Q Q (λs z15 hm hz15=>?_))));obtain⟨x12,c13,b14⟩:=s;refine WN [3,8,9,10,11,12,13,14,50,51,52] Q Q (bK 5 Q (bG hm Q (λh16 hm=>?_) (λh16 hm=>?_)))
  ·refine aM 5 Q (VE hm λe17 he17 hm=>SX Q Q (bR TK Q Q Q Q he17) (aG 4 Q (aL hm (λ(c18,b19)=>[]) (λ(c18,b19)=>([(6,.box 4 [.d (.bool (c18))]),(7,.box 23 [.msl 8 1 0 b19.length]),(8,.flat 3 1 (b19.map (D.int .i64)))])) [] [3,8,9,10,11,12,13,14,16,50,51,52] Q (λz20 hm=>?_) (λj hm=>?_))))
   ·refine aP 4 Q (c_N hm (gD ·) Q Q Q Q λr21 hm=>aG 8 Q (WN [3,8,9,10,11,12,13,14,16,17,50,51,52,61] Q Q (bG hm Q (λh22 hm=>?_) (λh22 hm=>?_))))
    ·refine aM 3 Q (BE hm λr23 hr23 hm=>?_);obtain⟨r24,r25⟩:=r23;refine dE [2,0,1,3,6,7,8] (λj=>Nat.beq j 6) Q Q Q (by decide) Q Q Q Q (kL hr23) Q Q Q ?_;exact aI 1 Q (e_j [0,1,2,3,4,5,6,7,8] hm Q (kB Q) Q)
    exact aQ 1 Q (e_j [0,1,2,3,4,5,6,7,8] hm Q (kB Q) Q)
   obtain⟨c18,b19⟩:=j;refine WN [3,8,9,10,11,12,13,14,16,50,51,52] Q Q (aM 2 Q (SB TK Q (λq26 hq26=>?_)));cases q26
   ·replace hm:=JB hq26 hm;refine aH 3 Q (c_N hm (mZ ·) Q Q Q Q λr27 hm=>SB TK Q (λq28 hq28=>?_));cases q28
    ·replace hm:=JB hq28 hm;exact aG 8 Q (WN [3,8,9,10,11,12,13,14,50,51,52] Q Q (aM 1 Q (GE hm λg29 hm=>SX Q Q (aZ Q Q Q Q g29) (aI 2 Q (e_l [0,1,2,3,4,5,6,7,8] hm Q (kB Q) Q)))))
    replace hm:=JA hq28 hm;exact aG 8 Q (WN [3,8,9,10,11,12,13,14,50,51,52] Q Q (aM 1 Q (GE hm λg30 hm=>SX Q Q (aZ Q Q Q Q g30) (aI 2 Q (e_l [0,1,2,3,4,5,6,7,8] hm Q (kB Q) Q)))))
   replace hm:=JA hq26 hm;exact aG 13 Q (WN [3,8,9,10,11,12,13,14,50,51,52] Q Q (aM 1 Q (GE hm λg31 hm=>SX Q Q (aZ Q Q Q Q g31) (aI 2 Q (e_l [0,1,2,3,4,5,6,7,8] hm Q (kB Q) Q)))))
  refine aQ 2 Q (IE hm λv32 hm hz=>?_);rw [hz15 _ hz] at hm;exact WX (bP 1 Q (e_j [0,1,2,3,4,5,6,7,8] hm Q (kB Q) Q))
 obtain⟨c5,b6⟩:=j;refine WN [3,8,9,10,11,12,13,14] Q Q (aL hm (λ(c33,b34)=>[]) (λ(c33,b34)=>([(6,.box 4 [.d (.bool (c33))]),(7,.box 23 [.msl 8 1 0 b34.length]),(8,.flat 3 1 (b34.map (D.int .i64)))])) [] [3,8,9,12,13,14] Q (λz35 hm=>?_) (λj hm=>?_))
 ·refine aP 3 Q (SX Q Q (aU TK Q Q Q) (aG 4 Q (aT hm (λ(x40,c41,b42)=>([(80,.d (.int .i64 x40))])) (λ(x40,c41,b42)=>([(6,.box 4 [.d (.bool (c41))]),(7,.box 23 [.msl 8 1 0 b42.length]),(8,.flat 3 1 (b42.map (D.int .i64)))])) [80] [3,8,9,10,11,12,13,14,78,79] [0,1,2,3,4,5,6,7,8] Q (kB Q) Q Q Q Q Q (λs z43 hm hz43=>?_))));obtain⟨x40,c41,b42⟩:=s;refine WN [3,8,9,10,11,12,13,14,78,79,80] Q Q (bK 5 Q (bG hm Q (λh44 hm=>?_) (λh44 hm=>?_)))
  ·refine aM 5 Q (VE hm λe45 he45 hm=>SX Q Q (bR TK Q Q Q Q he45) (aG 4 Q (aL hm (λ(c46,b47)=>[]) (λ(c46,b47)=>([(6,.box 4 [.d (.bool (c46))]),(7,.box 23 [.msl 8 1 0 b47.length]),(8,.flat 3 1 (b47.map (D.int .i64)))])) [] [3,8,9,10,11,12,13,14,19,78,79,80] Q (λz48 hm=>?_) (λj hm=>?_))))
   ·refine aP 4 Q (c_N hm (gD ·) Q Q Q Q λr49 hm=>aG 3 Q (iC [(93,.d (.bool (((decide ((0:Int)<=r49))&&(!(r4))))))] [93] [3,8,9,10,11,12,13,14,19,20,78,79,80] Q ?_ ?_))
    ·refine aP 3 Q (SB TK Q (λq50 hq50=>?_));cases q50
     ·refine aI 4 Q ?_;exact⟨[0,1,2,3,4,5,6,7,8],Q,(kB Q),bX (aV (aX (by first|(simp [hq50];done)|(simp only [hq50];simp))) Q) Q⟩
     refine aI 4 Q ?_;exact⟨[0,1,2,3,4,5,6,7,8],Q,(kB Q),bX (aV (aX (by first|(simp [hq50];done)|(simp only [hq50];simp))) Q) Q⟩
    refine WN [3,8,9,10,11,12,13,14,19,20,78,79,80,93] Q Q (cP hm Q (λh51 hm=>?_) (λh51 hm=>?_))
    ·refine aM 3 Q (BE hm λr52 hr52 hm=>?_);obtain⟨r53,r54⟩:=r52;refine dE [2,0,1,3,6,7,8] (λj=>Nat.beq j 6) Q Q Q (by decide) Q Q Q Q (kL hr52) Q Q Q ?_;exact aI 1 Q (e_j [0,1,2,3,4,5,6,7,8] hm Q (kB Q) Q)
    exact aQ 1 Q (e_j [0,1,2,3,4,5,6,7,8] hm Q (kB Q) Q)
   obtain⟨c46,b47⟩:=j;refine WN [3,8,9,10,11,12,13,14,19,78,79,80] Q Q (aM 2 Q (SB TK Q (λq55 hq55=>?_)));cases q55
   ·replace hm:=JB hq55 hm;refine aH 3 Q (c_N hm (mZ ·) Q Q Q Q λr56 hm=>SB TK Q (λq57 hq57=>?_));cases q57
    ·replace hm:=JB hq57 hm;exact aG 12 Q (WN [3,8,9,10,11,12,13,14,78,79,80] Q Q (aM 1 Q (GE hm λg58 hm=>SX Q Q (aZ Q Q Q Q g58) (aI 2 Q (e_l [0,1,2,3,4,5,6,7,8] hm Q (kB Q) Q)))))
    replace hm:=JA hq57 hm;refine aH 3 Q (SB TK Q (λq59 hq59=>?_));cases q59
    ·replace hm:=JB hq59 hm;exact aG 8 Q (WN [3,8,9,10,11,12,13,14,78,79,80] Q Q (aM 1 Q (GE hm λg60 hm=>SX Q Q (aZ Q Q Q Q g60) (aI 2 Q (e_l [0,1,2,3,4,5,6,7,8] hm Q (kB Q) Q)))))
    replace hm:=JA hq59 hm;exact aG 8 Q (WN [3,8,9,10,11,12,13,14,78,79,80] Q Q (aM 1 Q (GE hm λg61 hm=>SX Q Q (aZ Q Q Q Q g61) (aI 2 Q (e_l [0,1,2,3,4,5,6,7,8] hm Q (kB Q) Q)))))
   replace hm:=JA hq55 hm;exact aG 17 Q (WN [3,8,9,10,11,12,13,14,78,79,80] Q Q (aM 1 Q (GE hm λg62 hm=>SX Q Q (aZ Q Q Q Q g62) (aI 2 Q (e_l [0,1,2,3,4,5,6,7,8] hm Q (kB Q) Q)))))
  refine aQ 2 Q (IE hm λv63 hm hz=>?_);rw [hz43 _ hz] at hm;exact WX (bP 1 Q (e_j [0,1,2,3,4,5,6,7,8] hm Q (kB Q) Q))
 obtain⟨c33,b34⟩:=j;refine WN [3,8,9,12,13,14] Q Q (aL hm (λ(c64,b65)=>[]) (λ(c64,b65)=>([(6,.box 4 [.d (.bool (c64))]),(7,.box 23 [.msl 8 1 0 b65.length]),(8,.flat 3 1 (b65.map (D.int .i64)))])) [] [12,13] Q (λz66 hm=>?_) (λj hm=>?_))
 ·refine aP 2 Q (c_D hm (kT ·) Q Q Q Q λr67 hm=>SX Q Q (aU TK Q Q Q) (aG 4 Q (aT hm (λ(x72,c73,b74)=>([(116,.d (.int .i64 x72))])) (λ(x72,c73,b74)=>([(6,.box 4 [.d (.bool (c73))]),(7,.box 23 [.msl 8 1 0 b74.length]),(8,.flat 3 1 (b74.map (D.int .i64)))])) [116] [3,9,12,13,14,114,115] [0,1,2,3,4,5,6,7,8] Q (kB Q) Q Q Q Q Q (λs z75 hm hz75=>?_))));obtain⟨x72,c73,b74⟩:=s;refine WN [3,9,12,13,14,114,115,116] Q Q (bK 5 Q (bG hm Q (λh76 hm=>?_) (λh76 hm=>?_)))
  ·refine aM 5 Q (VE hm λe77 he77 hm=>SX Q Q (bR TK Q Q Q Q he77) (aH 1 Q (cD 9 Q Q fT Q (aG 3 Q (WN [3,9,12,13,14,22,114,115,116] Q Q (aM 5 Q (GE hm λg78 hm=>SX Q Q (aZ Q Q Q Q g78) (SX Q Q (cJ Q qVT fT Q Q Q Q) (cD 10 Q Q fT Q (aG 3 Q (WN [3,9,12,13,14,22,23,114,115,116] Q Q (aL hm (λx79=>([(135,.d (.bool (x79)))])) (λx79=>[]) [135] [3,9,12,13,14,22,23,114,115,116] Q (λz80 hm=>?_) (λx79 hm=>?_)))))))))))))
   ·refine aP 4 Q (c_N hm (gS ·) Q Q Q Q λr81 hm=>SB TK Q (λq82 hq82=>?_));cases q82
    ·replace hm:=JB hq82 hm;exact aH 3 Q (c_N hm (gS ·) Q Q Q Q λr83 hm=>aI 2 Q (e_j [0,1,2,3,4,5,6,7,8,9,10] hm Q (kB Q) Q))
    replace hm:=JA hq82 hm;exact aI 6 Q (e_j [0,1,2,3,4,5,6,7,8,9,10] hm Q (kB Q) Q)
   refine WN [3,9,12,13,14,22,23,114,115,116,135] Q Q (cP hm Q (λh84 hm=>?_) (λh84 hm=>?_))
   ·exact cR 5 Q (WN [3,9,12,13,14,114,115,116] Q Q (aM 1 Q (GE hm λg85 hm=>SX Q Q (aZ Q Q Q Q g85) (aI 2 Q (e_l [0,1,2,3,4,5,6,7,8] hm Q (kB Q) Q)))))
   refine aM 4 Q (c_N hm (gS ·) Q Q Q Q λr86 hm=>aG 2 Q (cP hm Q (λh87 hm=>?_) (λh87 hm=>?_)))
   ·refine cU follows ?_;iterate 16 (refine DA [0,1,2,3,4,5,6,7,8,9,10] TK Q ?_)
    refine fE [0,1,2,3,4,5,6,7,8,9,10] hm (kN ·) Q Q Q Q λr88 hm=>VE hm λe89 he89 hm=>DX [0,1,2,3,4,5,6,7,8,9,10] Q Q (bR TK Q Q Q Q he89) (DA [0,1,2,3,4,5,6,7,8,9,10] TK Q (fE [0,1,2,3,4,5,6,7,8,9,10] hm (gD ·) Q Q Q Q λr90 hm=>?_));refine DT ?_ (by kernel_rfl);refine BE hm λr91 hr91 hm=>?_;obtain⟨r92,r93⟩:=r91;refine dE [2,0,1,3,6,7,8] (λj=>Nat.beq j 6) Q Q Q (by decide) Q Q Q Q (kL hr91) Q Q Q ?_;exact aG 3 Q (WN [3,9,12,13,14,114,115,116] Q Q (aM 1 Q (GE hm λg94 hm=>SX Q Q (aZ Q Q Q Q g94) (aI 2 Q (e_l [0,1,2,3,4,5,6,7,8] hm Q (kB Q) Q)))))
   exact aM 4 Q (GE hm λg95 hm=>SX Q Q (aZ Q Q Q Q g95) (aI 2 Q (e_l [0,1,2,3,4,5,6,7,8] hm Q (kB Q) Q)))
  refine aQ 2 Q (IE hm λv96 hm hz=>?_);rw [hz75 _ hz] at hm;exact WX (bP 1 Q (e_j [0,1,2,3,4,5,6,7,8] hm Q (kB Q) Q))
 obtain⟨c64,b65⟩:=j;refine WN [12,13] Q Q (bV follows ?_);iterate 3 (refine DA [0,1,2,3,4,5,6,7,8] TK Q ?_)
 refine DT ?_ (by kernel_rfl);refine aG 3 Q ?_;refine kM 7 8 [6] Q Q Q Q Q (by simp) Q Q ?_;refine aQ 1 Q ?_;obtain⟨rfl,rfl⟩:=Prod.mk.inj (Option.some.inj hm);exact⟨_,[0,1],res Q,by decide,(kB Q),Q,Q⟩
end Go.Proofs.YtldaknhjmhlefaaGreatDoor
