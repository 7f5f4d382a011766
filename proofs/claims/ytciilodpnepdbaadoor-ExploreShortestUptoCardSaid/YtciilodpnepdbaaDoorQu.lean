/- Texts of this proof, joined, without what it does not use. No condition. -/
import Derived.Shelf.Slices.Reverse
import Derived.Test.YtciilodpnepdbaaDoorQt

set_option maxHeartbeats 8000000
set_option linter.unusedSimpArgs false
set_option linter.unusedVariables false
set_option maxRecDepth 20000
namespace Go.Proofs.YtciilodpnepdbaaDoor
open Go Go.TL Go.Sort Go.Shelf Go.RowKit Go.Lib Go.Proofs.Tryd
def xU:Go.Shelf.Ren:=⟨fun|112=>44|n=>n,fun|28=>30|3=>3|4=>4|0=>0|n=>n,fun|n=>n⟩
theorem qDU:Go.Proofs.Lays.n112 TP xU where
 mixed:=by kernel_rfl
 f112:=func44.trans (congrArg some (by kernel_rfl))
 t0:=Tryd.underlying0
 a0:=Tryd.isAgg0
 z0:=Tryd.sizeOf0
 v0:=Tryd.zeroValue0
 t3:=Tryd.underlying3
 a3:=Tryd.isAgg3
 z3:=Tryd.sizeOf3
 v3:=Tryd.zeroValue3
 t4:=Tryd.underlying4
 a4:=Tryd.isAgg4
 z4:=Tryd.sizeOf4
 v4:=Tryd.zeroValue4
 t28:=Tryd.underlying30
 a28:=Tryd.isAgg30
 z28:=Tryd.sizeOf30
 v28:=Tryd.zeroValue30
theorem kF (xs:List Int) (hlen:xs.length<=1000000000):Ret TP 44 [.flat 3 1 (xs.map (D.int .i64))] (λ_=>false) [.msl 0 1 0 xs.length] (.tup []) [.flat 3 1 ((vU xs).map (D.int .i64))]:=
 qDV 3 (λ_=>false) xs (aX rfl) (by omega) (λp cap w=>Any.slices_Reverse_int_empty qDU p cap w) (λblk off cap zs w hH hl=>Any.slices_Reverse_int qDU blk off cap zs w hH hl)
end Go.Proofs.YtciilodpnepdbaaDoor
set_option maxHeartbeats 8000000
set_option linter.unusedSimpArgs false
set_option linter.unusedVariables false
set_option maxRecDepth 20000
namespace Go.Proofs.YtciilodpnepdbaaDoor
open Go Go.TL Go.Proofs.Tryd
theorem qO:∀ (fu:Nat) {p0:Ab} {p1:Int} {r:Int} (hm:cM fu p0 p1=some r),RetN TP 36 [p0.enc,.int .i64 p1] (.int .i64 r):=by
 intro fu
 induction fu with
 | zero=>
  intro p0 p1 r hm;unfold cM at hm;cases hm
 | succ fu ih=>
  intro p0 p1 r hm;refine .unit (aP (aX Q) func36 Q ntmps36 Q Q (λwX gX=>?_)) Q;unfold cM at hm;refine WN [0,1] Q Q (aS 1 Q (eB 0 Q Q Q (aK 7 Q (bF hm (λn1=>([(5,.d (.int .i64 n1))])) (λn1=>[]) [5] [] Q (λz2 hm=>?_) (λn1 hm=>?_)))))
  ·refine cP 5 Q (bP hm (λ(n5,i6)=>([(5,.d (.int .i64 n5)),(6,.d (.int .i64 i6))])) (λ(n5,i6)=>[]) [5,6] [1,2] [0] Q k0 Q Q Q Q Q (λs z7 hm hz7=>?_));obtain⟨n5,i6⟩:=s;refine WN [1,2,5,6] Q Q (cP 1 Q (lV [(16,.d (.bool (((decide (i6 < (p0.args.length:Int)))&&(decide (n5<=p1))))))] [16] [1,2,5,6] Q ?_ ?_))
   ·refine aS 4 Q (SX Q Q (aU TK Q Q Q) (aI 1 Q (SB TK Q (λq8 hq8=>?_))));cases q8
    ·refine aF 5 Q ?_;exact⟨[0],Q,k0,eM (bX (bY (by first|(simp [hq8];done)|(simp only [hq8];simp))) Q) Q⟩
    refine aF 5 Q ?_;exact⟨[0],Q,k0,eM (bX (bY (by first|(simp [hq8];done)|(simp only [hq8];simp))) Q) Q⟩
   refine WN [1,2,5,6,16] Q Q (cF hm Q (λh9 hm=>?_) (λh9 hm=>?_))
   ·exact aN 9 Q (VE hm λe10 he10 hm=>SX Q Q (oR TK Q Q Q Q he10 (Ab.Ag _)) (aI 3 Q (GE hm λg11 hm=>SX Q Q (cI Q Q Q Q g11) (c_N hm (ih ·) Q Q Q Q λr12 hm=>GE hm λg13 hm=>SX Q Q (cI Q Q Q Q g13) (aI 6 Q (GE hm λg14 hm=>SX Q Q (cI Q Q Q Q g14) (aF 2 Q (cQ [0] hm Q Q))))))))
   refine aJ 2 Q (IE hm λv15 hm hz=>?_);rw [hz7 _ hz] at hm;exact WX (bI 1 Q (bR [0] hm Q Q))
  exact WN [5] Q Q (aJ 6 Q (aW hm Q))
theorem rV {p0:Ab} {p1:Int} {r:Int} (hm:iC p0 p1=some r):RetN TP 36 [p0.enc,.int .i64 p1] (.int .i64 r):=qO aZ hm
theorem vX {p0:Program} {p1:Int} {r:Bool} (hm:iS p0 p1=some r):RetN TP 19 [p0.enc,.int .i64 p1] (.bool (r)):=by
 refine .unit (aP (aX Q) func19 Q ntmps19 Q Q (λwX gX=>?_)) Q;unfold iS at hm;refine WN [0,1] Q Q (aS 1 Q (eB 0 Q Q Q (aK 4 Q ?_)));refine lV [(16,.d (.bool (((decide (p1 < (p0.names.length:Int)))||(decide ((40:Int) < (p0.Ac.length:Int)))))))] [16] [2] Q ?_ ?_
 ·refine aS 3 Q (SX Q Q (aU TK Q Q Q) (aI 2 Q (SB TK Q (λq1 hq1=>?_))));cases q1
  ·refine aI 2 Q (SX Q Q (aU TK Q Q Q) (aF 3 Q ?_));exact⟨[0],Q,k0,eM (bX (bY (by first|(simp [hq1];done)|(simp only [hq1];simp))) Q) Q⟩
  refine aF 6 Q ?_;exact⟨[0],Q,k0,eM (bX (bY (by first|(simp [hq1];done)|(simp only [hq1];simp))) Q) Q⟩
 refine WN [2,16] Q Q (cF hm Q (λh2 hm=>?_) (λh2 hm=>?_))
 ·exact aJ 6 Q (aW hm Q)
 refine bD 2 Q (bS hm (λ_=>[]) (λ_=>[]) [] [] Q (λz3 hm hz3=>?_) (λj hm=>?_))
 ·refine cP 5 Q (bP hm (λi5=>([(5,.d (.int .i64 i5))])) (λi5=>[]) [5] [2] [0] Q k0 Q Q Q Q Q (λi5 z6 hm hz6=>WN [2,5] Q Q (aS 5 Q (SX Q Q (aU TK Q Q Q) (aK 3 Q (bV hm Q (λh7 hm=>?_) (λh7 hm=>?_)))))))
  ·refine aN 8 Q (VE hm λe8 he8 hm=>SX Q Q (fM TK Q Q Q Q he8) (aI 2 Q (c_N hm (rV ·) Q Q Q Q λr9 hm=>aK 3 Q (bV hm Q (λh10 hm=>?_) (λh10 hm=>?_)))))
   ·refine bD 4 Q (WN [4] Q Q (aJ 3 Q (IE hm λv11 hm hz=>?_)));rw [hz6 _ hz] at hm;refine WR (bI 1 Q (IE hm λv12 hm hz=>?_));rw [hz3 _ hz] at hm;exact WR (aW hm Q)
   exact aN 5 Q (GE hm λg13 hm=>SX Q Q (cI Q Q Q Q g13) (aF 2 Q (cQ [0] hm Q Q)))
  refine aJ 2 Q (IE hm λv14 hm hz=>?_);rw [hz6 _ hz] at hm;exact WX (bI 1 Q (cQ [0] hm Q Q))
 exact WN [] Q Q (aJ 5 Q (aW hm Q))
theorem rW:∀ (fu:Nat) {p0:Ab} {r:Int} (hm:dQ fu p0=some r),RetN TP 20 [p0.enc] (.int .i64 r):=by
 intro fu
 induction fu with
 | zero=>
  intro p0 r hm;unfold dQ at hm;cases hm
 | succ fu ih=>
  intro p0 r hm;refine .unit (aP (aX Q) func20 Q ntmps20 Q Q (λwX gX=>?_)) Q;unfold dQ at hm;refine WN [0] Q Q (aS 1 Q (eB 0 Q Q Q (aK 7 Q (bF hm (λn1=>([(3,.d (.int .i64 n1))])) (λn1=>[]) [3] [] Q (λz2 hm=>?_) (λn1 hm=>?_)))))
  ·refine cP 5 Q (bP hm (λ(n5,i6)=>([(3,.d (.int .i64 n5)),(4,.d (.int .i64 i6))])) (λ(n5,i6)=>[]) [3,4] [1] [0] Q k0 Q Q Q Q Q (λs z7 hm hz7=>?_));obtain⟨n5,i6⟩:=s;refine WN [1,3,4] Q Q (aS 5 Q (SX Q Q (aU TK Q Q Q) (aK 3 Q (bV hm Q (λh8 hm=>?_) (λh8 hm=>?_)))))
   ·exact aN 9 Q (VE hm λe9 he9 hm=>SX Q Q (oR TK Q Q Q Q he9 (Ab.Ag _)) (aI 1 Q (c_N hm (ih ·) Q Q Q Q λr10 hm=>GE hm λg11 hm=>SX Q Q (cI Q Q Q Q g11) (aI 6 Q (GE hm λg12 hm=>SX Q Q (cI Q Q Q Q g12) (aF 2 Q (cQ [0] hm Q Q)))))))
   refine aJ 2 Q (IE hm λv13 hm hz=>?_);rw [hz7 _ hz] at hm;exact WX (bI 1 Q (bR [0] hm Q Q))
  exact WN [3] Q Q (aJ 6 Q (aW hm Q))
theorem tU {p0:Ab} {r:Int} (hm:gW p0=some r):RetN TP 20 [p0.enc] (.int .i64 r):=rW aZ hm
theorem vW {p0:Program} {p1:(List Aa)} {p2:(List (List Bool))} {r:Bool} (hm:iR p0 p1 p2=some r):RetN TP 8 [p0.enc,.sl 4 (p1.map Aa.enc),.sl 1 (p2.map (λ(l:List Bool)=>D.sl 1 (l.map D.bool)))] (.bool (r)):=by
 refine .unit (aP (aX Q) func8 Q ntmps8 Q Q (λwX gX=>?_)) Q;unfold iR at hm;refine WN [0,1,2] Q Q (aS 1 Q (eB 0 Q Q Q (aK 4 Q (bF hm (λx1=>([(21,.d (.bool (x1)))])) (λx1=>[]) [21] [1,2] Q (λz2 hm=>?_) (λx1 hm=>?_)))))
 ·refine aS 2 Q (c_N hm (vX ·) Q Q Q Q λr3 hm=>aI 1 Q (SB TK Q (λq4 hq4=>?_)));cases q4
  ·replace hm:=JB hq4 hm;refine aI 1 Q (SX Q Q (aU TK Q Q Q) (aI 2 Q (SB TK Q (λq5 hq5=>?_))));cases q5
   ·replace hm:=JF hq5 hm;exact aI 1 Q (SX Q Q (aU TK Q Q Q) (aF 3 Q (bR [0] hm Q Q)))
   replace hm:=JT hq5 hm;exact aF 5 Q (bR [0] hm Q Q)
  replace hm:=JA hq4 hm;exact aF 10 Q (bR [0] hm Q Q)
 refine WN [1,2,21] Q Q (cF hm Q (λh6 hm=>?_) (λh6 hm=>?_))
 ·exact aJ 6 Q (aW hm Q)
 refine bD 2 Q (bS hm (λ_=>[]) (λ_=>[]) [] [2] Q (λz7 hm hz7=>?_) (λj hm=>?_))
 ·refine cP 5 Q (bP hm (λi9=>([(7,.d (.int .i64 i9))])) (λi9=>[]) [7] [1,2] [0] Q k0 Q Q Q Q Q (λi9 z10 hm hz10=>WN [1,2,7] Q Q (aS 4 Q (SX Q Q (aU TK Q Q Q) (aK 3 Q (bV hm Q (λh11 hm=>?_) (λh11 hm=>?_)))))))
  ·refine aN 7 Q (VE hm λe12 he12 hm=>SX Q Q (fM TK Q Q Q Q he12) (aI 2 Q (c_N hm (tU ·) Q Q Q Q λr13 hm=>aK 3 Q (bV hm Q (λh14 hm=>?_) (λh14 hm=>?_)))))
   ·refine aJ 7 Q (IE hm λv15 hm hz=>?_);rw [hz10 _ hz] at hm;refine WR (bI 1 Q (IE hm λv16 hm hz=>?_));rw [hz7 _ hz] at hm;exact WR (aW hm Q)
   exact aN 5 Q (GE hm λg17 hm=>SX Q Q (cI Q Q Q Q g17) (aF 2 Q (cQ [0] hm Q Q)))
  refine aJ 2 Q (IE hm λv18 hm hz=>?_);rw [hz10 _ hz] at hm;exact WX (bI 1 Q (cQ [0] hm Q Q))
 refine WN [2] Q Q (bS hm (λ_=>[]) (λ_=>[]) [] [] Q (λz19 hm hz19=>?_) (λj hm=>?_))
 ·refine cP 5 Q (bP hm (λi21=>([(8,.d (.int .i64 i21))])) (λi21=>[]) [8] [2] [0] Q k0 Q Q Q Q Q (λi21 z22 hm hz22=>WN [2,8] Q Q (aS 4 Q (SX Q Q (aU TK Q Q Q) (aK 3 Q (bV hm Q (λh23 hm=>?_) (λh23 hm=>?_)))))))
  ·refine aN 7 Q (VE hm λe24 he24 hm=>SX Q Q (fM TK Q Q Q Q he24) (aI 1 Q (SX Q Q (aU TK Q Q Q) (aK 3 Q (bV hm Q (λh25 hm=>?_) (λh25 hm=>?_))))))
   ·refine aJ 7 Q (IE hm λv26 hm hz=>?_);rw [hz22 _ hz] at hm;refine WR (bI 1 Q (IE hm λv27 hm hz=>?_));rw [hz19 _ hz] at hm;exact WR (aW hm Q)
   exact aN 5 Q (GE hm λg28 hm=>SX Q Q (cI Q Q Q Q g28) (aF 2 Q (cQ [0] hm Q Q)))
  refine aJ 2 Q (IE hm λv29 hm hz=>?_);rw [hz22 _ hz] at hm;exact WX (bI 1 Q (cQ [0] hm Q Q))
 exact WN [] Q Q (aJ 5 Q (aW hm Q))
theorem dM {p0:Int} {r:Ab} (hm:cR p0=some r):RetD TP 22 [.int .i64 p0] (r.enc):=by
 refine .of (mv:=λ_=>false) (aP (aX Q) func22 Q ntmps22 Q Q (λwX gX=>?_));unfold cR at hm;refine WN [0] Q Q (aS 1 Q (eQ 0 Q Q mH Q (eX 0 [none,none,some 3] Q Q (aI 4 Q (SX Q Q (cG Q qEE mH Q Q Q Q) (s_wk 4 [none,none,some 3] Q (aF 4 Q ?_)))))));obtain rfl:=OJ hm;exact EndsS.cellR _ TK Q Q Q Q Q (.d _)
theorem oX {p0:Ab} {r:Ab} (hm:lI p0=some r):RetD TP 21 [p0.enc] (r.enc):=by
 refine .of (mv:=λ_=>false) (aP (aX Q) func21 Q ntmps21 Q Q (λwX gX=>?_));unfold lI at hm;refine WN [0] Q Q (aS 1 Q (eB 0 Q Q Q (eQ 1 Q Q mH Q (eX 1 [none,none,some 3] Q Q (aI 4 Q (SX Q Q (qCW (f:=Ab.Ak) (xs:=([p0]:List Ab)) [.tmp 3] TK Q Q mH Q (qFL Q (oM (Ab.Ag _) xB)) Q (sV Ab.Am) Q) (SX Q Q (cG Q qEE mH Q Q Q Q) (aF 4 Q ?_))))))));obtain rfl:=OJ hm;exact EndsS.cellR _ TK Q Q Q Q Q (.d _)
theorem dV  {r:Program} (hm:dH=some r):RetD TP 23 [] (r.enc):=by
 refine .of (mv:=λ_=>false) (aP (aX Q) func23 Q ntmps23 Q Q (λwX gX=>?_));unfold dH at hm;refine WN [] Q Q (aS 1 Q (eQ 0 Q Q qCU Q (eX 0 [some 1,none,some 6] Q Q (aI 3 Q (SX Q Q (gK [.const (Value.string ⟨#[97]⟩),.const (Value.string ⟨#[98]⟩),.const (Value.string ⟨#[99]⟩)] TK Q Q zero9 Q Q Q Q Q) (c_D hm (dM ·) Q Q Q Q λr1 hm=>c_D hm (oX ·) Q Q Q Q λr2 hm=>SX Q Q (cG Q qIY mG Q Q Q Q) (c_D hm (dM ·) Q Q Q Q λr3 hm=>SX Q Q (cG Q qIY mG Q Q Q Q) (SX Q Q (gK [.tmp 4,.tmp 6] TK Q Q mG Q Q Q Q Q) (SX Q Q (cG Q plc25 qCU Q Q Q Q) (aF 4 Q ?_))))))))));obtain rfl:=OJ hm;exact EndsS.cellR _ TK Q Q Q Q Q (.d _)
theorem sF:∀ (fu:Nat) {p0:Ab} {p1:Int} {p2:Int} {p3:Int} {r0:Bool} {r1:Int} (hm:cK fu p0 p1 p2 p3=some (r0,r1)),Ret TP 67 [.box 3 [.d (.int .i64 p3)]] (λ_=>false) [.d (.ptr (p0.enc) 0),.d (.int .i64 p1),.d (.int .i64 p2),.mptr 0 0 0 0] (.d (.bool (r0))) [.box 3 [.d (.int .i64 r1)]]:=by
 intro fu
 induction fu with
 | zero=>
  intro p0 p1 p2 p3 r0 r1 hm;unfold cK at hm;cases hm
 | succ fu ih=>
  intro p0 p1 p2 p3 r0 r1 hm;refine cC (aX Q) func67 Q ntmps67 Q Q (λwX gX=>?_);unfold cK at hm;refine WN [0,1,2,3] Q Q (cP 5 Q ?_);refine lV [(17,.d (.bool (((decide ((12:Int) < p2))||(decide (p3=(0:Int)))))))] [17] [0,1,2,3] Q ?_ ?_
  ·refine aS 3 Q (SB TK Q (λq1 hq1=>?_));cases q1
   ·refine aF 6 Q ?_;exact⟨[0],Q,(kB Q),eM (bX (bY (by first|(simp [hq1];done)|(simp only [hq1];simp))) Q) Q⟩
   refine aF 6 Q ?_;exact⟨[0],Q,(kB Q),eM (bX (bY (by first|(simp [hq1];done)|(simp only [hq1];simp))) Q) Q⟩
  refine WN [0,1,2,3,17] Q Q (cF hm Q (λh2 hm=>?_) (λh2 hm=>?_))
  ·refine aJ 6 Q ?_;obtain⟨rfl,rfl⟩:=Prod.mk.inj (Option.some.inj hm);exact⟨_,[0],res Q,by decide,(kB Q),Q,Q⟩
  refine aN 6 Q (GE hm λg3 hm=>SX Q Q (cI Q Q Q Q g3) (aK 4 Q (bS hm (λ_=>[]) (λ_=>[]) [] [0,1,2,3] Q (λz4 hm hz4=>?_) (λj hm=>?_))))
  ·refine cP 8 Q (bF hm (λx5=>([(27,.d (.bool (x5)))])) (λx5=>[]) [27] [0,1,2,3,26] Q (λz6 hm=>?_) (λx5 hm=>?_))
   ·refine cP 5 Q (bV hm Q (λh7 hm=>?_) (λh7 hm=>?_))
    ·exact aJ 1 Q (e_j [0] hm Q (kB Q) Q)
    exact aJ 4 Q (e_j [0] hm Q (kB Q) Q)
   refine WN [0,1,2,3,26,27] Q Q (cF hm Q (λh8 hm=>?_) (λh8 hm=>?_))
   ·refine lV [(8,.d (.bool (((decide (p0.var=(0:Int)))&&(decide ((p0.args.length:Int)=(0:Int)))))))] [8] [] Q ?_ ?_
    ·refine aS 6 Q (SB TK Q (λq9 hq9=>?_));cases q9
     ·refine aF 9 Q ?_;exact⟨[0],Q,(kB Q),eM (bX (bY (by first|(simp [hq9];done)|(simp only [hq9];simp))) Q) Q⟩
     refine aI 4 Q (SX Q Q (aU TK Q Q Q) (aF 4 Q ?_));exact⟨[0],Q,(kB Q),eM (bX (bY (by first|(simp [hq9];done)|(simp only [hq9];simp))) Q) Q⟩
    refine WN [8] Q Q (aJ 2 Q (IE hm λv10 hm hz=>?_));rw [hz4 _ hz] at hm;refine WR ?_;obtain⟨rfl,rfl⟩:=Prod.mk.inj (Option.some.inj hm);exact⟨_,[0],res Q,by decide,(kB Q),Q,Q⟩
   refine bD 5 Q (bV hm Q (λh11 hm=>?_) (λh11 hm=>?_))
   ·refine lV [(8,.d (.bool (((decide ((0:Int)<=p0.var))&&((decide (p0.var < p1))&&(decide ((p0.args.length:Int)=(0:Int))))))))] [8] [] Q ?_ ?_
    ·refine aS 6 Q (SB TK Q (λq12 hq12=>?_));cases q12
     ·refine aF 17 Q ?_;exact⟨[0],Q,(kB Q),eM (bX (bY (by first|(simp [hq12];done)|(simp only [hq12];simp))) Q) Q⟩
     refine aI 7 Q (SB TK Q (λq13 hq13=>?_));cases q13
     ·refine aF 9 Q ?_;exact⟨[0],Q,(kB Q),eM (bX (bY (by first|(simp [hq12,hq13];done)|(simp only [hq12,hq13];simp))) Q) Q⟩
     refine aI 4 Q (SX Q Q (aU TK Q Q Q) (aF 4 Q ?_));exact⟨[0],Q,(kB Q),eM (bX (bY (by first|(simp [hq12,hq13];done)|(simp only [hq12,hq13];simp))) Q) Q⟩
    refine WN [8] Q Q (aJ 2 Q (IE hm λv14 hm hz=>?_));rw [hz4 _ hz] at hm;refine WR ?_;obtain⟨rfl,rfl⟩:=Prod.mk.inj (Option.some.inj hm);exact⟨_,[0],res Q,by decide,(kB Q),Q,Q⟩
   refine bD 5 Q (bV hm Q (λh15 hm=>?_) (λh15 hm=>?_))
   ·refine aN 5 Q (SX Q Q (aU TK Q Q Q) (aK 3 Q (iG hm Q (λh16 hm=>?_) (λh16 hm=>?_))))
    ·refine bD 4 Q (WN [8] Q Q (aJ 2 Q (IE hm λv17 hm hz=>?_)));rw [hz4 _ hz] at hm;refine WR ?_;obtain⟨rfl,rfl⟩:=Prod.mk.inj (Option.some.inj hm);exact⟨_,[0],res Q,by decide,(kB Q),Q,Q⟩
    exact aJ 2 Q (e_l [0] hm Q (kB Q) Q)
   refine bD 6 Q (bV hm Q (λh18 hm=>?_) (λh18 hm=>?_))
   ·exact bD 2 Q (qGU Q true h18 (aJ 2 Q (e_l [0] hm Q (kB Q) Q)))
   refine bD 5 Q (bV hm Q (λh19 hm=>?_) (λh19 hm=>?_))
   ·exact aJ 2 Q (e_l [0] hm Q (kB Q) Q)
   refine aJ 6 Q (IE hm λv20 hm hz=>?_);rw [hz4 _ hz] at hm;refine WR ?_;obtain⟨rfl,rfl⟩:=Prod.mk.inj (Option.some.inj hm);exact⟨_,[0],res Q,by decide,(kB Q),Q,Q⟩
  refine WN [0,1,2,3] Q Q (bD 9 Q (iG hm Q (λh21 hm=>?_) (λh21 hm=>?_)))
  ·refine aJ 6 Q ?_;obtain⟨rfl,rfl⟩:=Prod.mk.inj (Option.some.inj hm);exact⟨_,[0],res Q,by decide,(kB Q),Q,Q⟩
  refine bD 2 Q (bS hm (λc22=>[]) (λc22=>([(0,.box 3 [.d (.int .i64 c22)])])) [] [] Q (λz23 hm hz23=>?_) (λc22 hm=>?_))
  ·refine aS 5 Q (SX Q Q (aU TK Q Q Q) (aK 4 Q (bP hm (λ(x27,c28)=>([(87,.d (.int .i64 x27))])) (λ(x27,c28)=>([(0,.box 3 [.d (.int .i64 c28)])])) [87] [0,1,2,3,86] [0] Q (kB Q) Q Q Q Q Q (λs z29 hm hz29=>?_))));obtain⟨x27,c28⟩:=s;refine WN [0,1,2,3,86,87] Q Q (cP 5 Q (bV hm Q (λh30 hm=>?_) (λh30 hm=>?_)))
   ·refine aN 15 Q (VE hm λe31 he31 hm=>SX Q Q (oR TK Q Q Q Q he31 (Ab.Ag _)) (aI 2 Q (GE hm λg32 hm=>SX Q Q (cI Q Q Q Q g32) (aI 1 Q (BE hm λr33 hr33 hm=>?_)))));obtain⟨r34,r35⟩:=r33;refine eK [0] (λ_=>false) Q Q Q (by decide) Q Q Q Q (ih hr33) Q Q Q ?_;refine aK 3 Q (cF hm Q (λh36 hm=>?_) (λh36 hm=>?_))
    ·refine bD 4 Q (WN [8] Q Q (aJ 3 Q (IE hm λv37 hm hz=>?_)));rw [hz29 _ hz] at hm;refine WR (bI 1 Q (IE hm λv38 hm hz=>?_));rw [hz23 _ hz] at hm;refine WR ?_;obtain⟨rfl,rfl⟩:=Prod.mk.inj (Option.some.inj hm);exact⟨_,[0],res Q,by decide,(kB Q),Q,Q⟩
    exact bD 3 Q (WN [0,1,2,3,86,87] Q Q (aN 1 Q (GE hm λg39 hm=>SX Q Q (cI Q Q Q Q g39) (aF 2 Q (e_l [0] hm Q (kB Q) Q)))))
   refine aJ 2 Q (IE hm λv40 hm hz=>?_);rw [hz29 _ hz] at hm;exact WX (bI 1 Q (e_l [0] hm Q (kB Q) Q))
  refine WN [] Q Q (aJ 5 Q ?_);obtain⟨rfl,rfl⟩:=Prod.mk.inj (Option.some.inj hm);exact⟨_,[0],res Q,by decide,(kB Q),Q,Q⟩
theorem uP {p0:Ab} {p1:Int} {p2:Int} {p3:Int} {r0:Bool} {r1:Int} (hm:mQ p0 p1 p2 p3=some (r0,r1)):Ret TP 67 [.box 3 [.d (.int .i64 p3)]] (λ_=>false) [.d (.ptr (p0.enc) 0),.d (.int .i64 p1),.d (.int .i64 p2),.mptr 0 0 0 0] (.d (.bool (r0))) [.box 3 [.d (.int .i64 r1)]]:=sF aZ hm
theorem uR {p0:Ab} {p1:Int} {r:Bool} (hm:fR p0 p1=some r):RetN TP 62 [p0.enc,.int .i64 p1] (.bool (r)):=by
 refine .unit (aP (aX Q) func62 Q ntmps62 Q Q (λwX gX=>?_)) Q;unfold fR at hm;refine WN [0,1] Q Q (aS 1 Q (eB 0 Q Q Q (aI 4 Q (eQ 1 Q Q iO Q (aK 3 Q (qAO 0 Q Q Q Q Q (aN 2 Q (BE hm λr1 hr1 hm=>?_))))))));obtain⟨r2,r3⟩:=r1;refine eK [1] (λ_=>false) Q Q Q (by decide) Q Q Q Q (uP hr1) Q Q Q ?_;exact aF 4 Q (aW hm Q)
theorem pG {p0:Program} {p1:Ae} {r:Bool} (hm:eR p0 p1=some r):RetN TP 55 [p0.enc,p1.enc] (.bool (r)):=by
 refine .unit (aP (aX Q) func55 Q ntmps55 Q Q (λwX gX=>?_)) Q;unfold eR at hm;refine WN [0,1] Q Q (aS 1 Q (eB 0 Q Q Q (eB 1 Q Q Q (aK 3 Q (bS hm (λ_=>[]) (λ_=>[]) [] [2,3] Q (λz1 hm hz1=>?_) (λj hm=>?_))))))
 ·refine cP 11 Q (bV hm Q (λh2 hm=>?_) (λh2 hm=>?_))
  ·refine bD 6 Q (iG hm Q (λh3 hm=>?_) (λh3 hm=>?_))
   ·refine aJ 6 Q (IE hm λv4 hm hz=>?_);rw [hz1 _ hz] at hm;exact WR (aW hm Q)
   exact aJ 2 Q (cQ [0,1] hm Q Q)
  refine bD 5 Q (bV hm Q (λh5 hm=>?_) (λh5 hm=>?_))
  ·refine lV [(21,.d (.bool (((decide (p1.Af < (1:Int)))||(decide ((1073741824:Int) < p1.Af))))))] [21] [2,3] Q ?_ ?_
   ·refine aS 4 Q (SB TK Q (λq6 hq6=>?_));cases q6
    ·refine aF 5 Q ?_;exact⟨[0,1],Q,k0,eM (bX (bY (by first|(simp [hq6];done)|(simp only [hq6];simp))) Q) Q⟩
    refine aF 5 Q ?_;exact⟨[0,1],Q,k0,eM (bX (bY (by first|(simp [hq6];done)|(simp only [hq6];simp))) Q) Q⟩
   refine WN [2,3,21] Q Q (cF hm Q (λh7 hm=>?_) (λh7 hm=>?_))
   ·refine aJ 6 Q (IE hm λv8 hm hz=>?_);rw [hz1 _ hz] at hm;exact WR (aW hm Q)
   exact aJ 2 Q (cQ [0,1] hm Q Q)
  refine aJ 6 Q (IE hm λv9 hm hz=>?_);rw [hz1 _ hz] at hm;exact WR (aW hm Q)
 refine WN [2,3] Q Q (bF hm (λx10=>([(4,.d (.bool (x10)))])) (λx10=>[]) [4] [] Q (λz11 hm=>?_) (λx10 hm=>?_))
 ·refine aS 6 Q (SB TK Q (λq12 hq12=>?_));cases q12
  ·replace hm:=JF hq12 hm;exact aF 17 Q (bR [0,1] hm Q Q)
  replace hm:=JT hq12 hm;refine aI 4 Q (SX Q Q (aU TK Q Q Q) (aI 2 Q (SB TK Q (λq13 hq13=>?_))));cases q13
  ·replace hm:=JF hq13 hm;exact aF 9 Q (bR [0,1] hm Q Q)
  replace hm:=JT hq13 hm;exact aI 4 Q (SX Q Q (aU TK Q Q Q) (c_N hm (uR ·) Q Q Q Q λr14 hm=>aF 3 Q (bR [0,1] hm Q Q)))
 exact WN [4] Q Q (aJ 1 Q (aW hm Q))
theorem fZ {p0:Program} {r:Int} (hm:fP p0=some r):RetN TP 37 [p0.enc] (.int .i64 r):=by
 refine .unit (aP (aX Q) func37 Q ntmps37 Q Q (λwX gX=>?_)) Q;unfold fP at hm;refine WN [0] Q Q (aS 1 Q (eB 0 Q Q Q (aI 7 Q (SX Q Q (aU TK Q Q Q) (aK 3 Q (bV hm Q (λh1 hm=>?_) (λh1 hm=>?_)))))))
 ·exact aJ 6 Q (aW hm Q)
 refine bD 3 Q ?_;refine lV [(22,.d (.bool (((decide (p0.inputs < (0:Int)))||(decide ((p0.names.length:Int) < p0.inputs))))))] [22] [1] Q ?_ ?_
 ·refine aS 4 Q (SB TK Q (λq2 hq2=>?_));cases q2
  ·refine aI 4 Q (SX Q Q (aU TK Q Q Q) (aF 3 Q ?_));exact⟨[0],Q,k0,eM (bX (bY (by first|(simp [hq2];done)|(simp only [hq2];simp))) Q) Q⟩
  refine aF 8 Q ?_;exact⟨[0],Q,k0,eM (bX (bY (by first|(simp [hq2];done)|(simp only [hq2];simp))) Q) Q⟩
 refine WN [1,22] Q Q (cF hm Q (λh3 hm=>?_) (λh3 hm=>?_))
 ·exact aJ 6 Q (aW hm Q)
 refine bD 2 Q (bS hm (λ_=>[]) (λ_=>[]) [] [1] Q (λz4 hm hz4=>?_) (λj hm=>?_))
 ·refine aS 3 Q (SX Q Q (aU TK Q Q Q) (aK 4 Q (bP hm (λx6=>([(26,.d (.int .i64 x6))])) (λx6=>[]) [26] [1,24,25] [0] Q k0 Q Q Q Q Q (λx6 z7 hm hz7=>WN [1,24,25,26] Q Q (cP 5 Q (bV hm Q (λh8 hm=>?_) (λh8 hm=>?_)))))))
  ·refine aN 5 Q (VE hm λe9 he9 hm=>SX Q Q (fM TK Q Q Q Q he9) (aI 1 Q (eQ 1 Q Q mG Q (eX 1 [none,none,none,none,none,some 3] Q Q (aI 6 Q (c_N hm (pG ·) Q Q Q Q λr10 hm=>aK 3 Q (cF hm Q (λh11 hm=>?_) (λh11 hm=>?_))))))))
   ·refine aJ 7 Q (IE hm λv12 hm hz=>?_);rw [hz7 _ hz] at hm;refine WR (bI 1 Q (IE hm λv13 hm hz=>?_));rw [hz4 _ hz] at hm;exact WR (aW hm Q)
   exact aN 4 Q (GE hm λg14 hm=>SX Q Q (cI Q Q Q Q g14) (aF 2 Q (cQ [0] hm Q Q)))
  refine aJ 2 Q (IE hm λv15 hm hz=>?_);rw [hz7 _ hz] at hm;exact WX (bI 1 Q (cQ [0] hm Q Q))
 refine WN [1] Q Q (aN 3 Q (SX Q Q (aU TK Q Q Q) (GE hm λg16 hm=>s_mkO (f:=D.bool) (x:=false) 1 TK Q Q Q kD Q Q Q Q Q g16 Q (aK 3 Q (bS hm (λb17=>[]) (λb17=>([(1,.flat 4 1 (b17.map D.bool))])) [] [] Q (λz18 hm hz18=>?_) (λb17 hm=>?_))))))
 ·refine aS 3 Q (SX Q Q (aU TK Q Q Q) (aK 4 Q (bP hm (λ(x22,b23)=>([(5,.msl 1 1 0 b23.length),(42,.d (.int .i64 x22))])) (λ(x22,b23)=>([(1,.flat 4 1 (b23.map D.bool))])) [5,42] [40,41] [0,1] Q k0 Q Q Q Q Q (λs z24 hm hz24=>?_))));obtain⟨x22,b23⟩:=s;refine WN [5,40,41,42] Q Q (cP 5 Q (bV hm Q (λh25 hm=>?_) (λh25 hm=>?_)))
  ·refine aN 5 Q (VE hm λe26 he26 hm=>SX Q Q (fM TK Q Q Q Q he26) (aI 1 Q (eQ 2 Q Q mG Q (eX 2 [none,none,none,none,none,some 3] Q Q (aI 8 Q (VE hm λe27 he27 hm=>SX Q Q (eZ TK Q Q Q Q he27 Q) (SX Q Q (lU TK Q Q Q Q he27.2 Q) (aK 2 Q (cF hm Q (λh28 hm=>?_) (λh28 hm=>?_))))))))))
   ·refine aJ 8 Q (IE hm λv29 hm hz=>?_);rw [hz24 _ hz] at hm;refine WR (bI 1 Q (IE hm λv30 hm hz=>?_));rw [hz18 _ hz] at hm;exact WR (aW hm Q)
   exact aN 6 Q (VE hm λe31 he31 hm=>SX Q Q (eZ TK Q Q Q Q he31 Q) (qH (x':=true) TK Q Q Q Q Q he31.2 Q Q Q (fK 5 (b23.set e26.var.toNat true).length Q List.length_set.symm (fK 51 (b23.set e26.var.toNat true).length Q List.length_set.symm (aI 4 Q (GE hm λg32 hm=>SX Q Q (cI Q Q Q Q g32) (aF 2 Q (cQ [0,1] hm Q Q))))))))
  refine aJ 2 Q (IE hm λv33 hm hz=>?_);rw [hz24 _ hz] at hm;exact WX (bI 1 Q (cQ [0,1] hm Q Q))
 exact WN [] Q Q (aJ 5 Q (aW hm Q))
theorem jV {p0:Program} {p1:(List (List Bool))} {p2:Int} {r:Int} (hm:cO p0 p1 p2=some (none,r)):Ret TP 24 [] (λ_=>false) ([p0.enc,.sl 1 (p1.map (λ(l:List Bool)=>D.sl 1 (l.map D.bool))),.int .i64 p2].map .d) (.tup [.d .nilptr,.d (.int .i64 r)]) []:=by
 refine cC (aX Q) func24 Q ntmps24 Q Q (λwX gX=>?_);unfold cO at hm;refine WN [0,1,2] Q Q (aS 1 Q (eB 0 Q Q Q (aK 5 Q (bF hm (λx1=>([(23,.d (.bool (x1)))])) (λx1=>[]) [23] [1,2,3] Q (λz2 hm=>?_) (λx1 hm=>?_)))))
 ·refine aS 2 Q (c_N hm (fZ ·) Q Q Q Q λr3 hm=>aI 1 Q (SB TK Q (λq4 hq4=>?_)));cases q4
  ·replace hm:=oI hq4 hm;refine aI 1 Q (SX Q Q (aU TK Q Q Q) (aI 2 Q (SB TK Q (λq5 hq5=>?_))));cases q5
   ·replace hm:=JF hq5 hm;refine aI 3 Q (SB TK Q (λq6 hq6=>?_));cases q6
    ·replace hm:=JF hq6 hm;exact aF 4 Q (bR [0] hm Q Q)
    replace hm:=JT hq6 hm;exact aF 4 Q (bR [0] hm Q Q)
   replace hm:=JT hq5 hm;exact aF 8 Q (bR [0] hm Q Q)
  replace hm:=oH hq4 hm;exact aF 13 Q (bR [0] hm Q Q)
 refine WN [1,2,3,23] Q Q (cF hm Q (λh7 hm=>?_) (λh7 hm=>?_))
 ·refine aJ 7 Q ?_;cases hm;exact⟨_,[],res Q,by decide,k0,Q,Q⟩
 refine aN 6 Q (sJ 9 4 Q (qI 27 (.mmap 1) Q Q (SX Q Q (iT Q qIZ qCR Q Q Q Q) (eB 2 Q Q Q (aF 5 Q ?_)))));cases hm
theorem jU {p0:Program} {p1:(List (List Bool))} {p2:Int} {q:Ah} {r:Int} (hm:cO p0 p1 p2=some (some q,r)):Ret TP 24 [] (λ_=>false) ([p0.enc,.sl 1 (p1.map (λ(l:List Bool)=>D.sl 1 (l.map D.bool))),.int .i64 p2].map .d) (.tup [.mptr 0 0 0 0,.d (.int .i64 r)]) [.box 70 [.d (.sl 1 (q.p.names.map D.str)),.d (.int .i64 q.p.inputs),.d (.sl 6 (q.p.Ac.map Ae.enc)),.d (.sl 1 (q.inputs.map (λ(l:List Bool)=>D.sl 1 (l.map D.bool)))),.d (.int .i64 q.depth),.d .nilsl,.mmap 1],.map 9 4 (aO D.str D.bool q.seen)]:=by
 refine cC (aX Q) func24 Q ntmps24 Q Q (λwX gX=>?_);unfold cO at hm;refine WN [0,1,2] Q Q (aS 1 Q (eB 0 Q Q Q (aK 5 Q (bF hm (λx1=>([(23,.d (.bool (x1)))])) (λx1=>[]) [23] [1,2,3] Q (λz2 hm=>?_) (λx1 hm=>?_)))))
 ·refine aS 2 Q (c_N hm (fZ ·) Q Q Q Q λr3 hm=>aI 1 Q (SB TK Q (λq4 hq4=>?_)));cases q4
  ·replace hm:=oI hq4 hm;refine aI 1 Q (SX Q Q (aU TK Q Q Q) (aI 2 Q (SB TK Q (λq5 hq5=>?_))));cases q5
   ·replace hm:=JF hq5 hm;refine aI 3 Q (SB TK Q (λq6 hq6=>?_));cases q6
    ·replace hm:=JF hq6 hm;exact aF 4 Q (bR [0] hm Q Q)
    replace hm:=JT hq6 hm;exact aF 4 Q (bR [0] hm Q Q)
   replace hm:=JT hq5 hm;exact aF 8 Q (bR [0] hm Q Q)
  replace hm:=oH hq4 hm;exact aF 13 Q (bR [0] hm Q Q)
 refine WN [1,2,3,23] Q Q (cF hm Q (λh7 hm=>?_) (λh7 hm=>?_))
 ·refine aJ 7 Q ?_;cases hm
 refine aN 6 Q (sJ 9 4 Q (qI 27 (.mmap 1) Q Q (SX Q Q (iT Q qIZ qCR Q Q Q Q) (eB 2 Q Q Q (aF 5 Q ?_)))));cases hm;exact⟨_,[2,1],res Q,by decide,k0,Q,Q⟩
theorem kN {p0:Program} {r:Machine} (hm:dX p0=some r):RetD TP 31 [p0.enc] (r.enc):=by
 refine .of (mv:=λ_=>false) (aP (aX Q) func31 Q ntmps31 Q Q (λwX gX=>?_));unfold dX at hm;refine WN [0] Q Q (aS 1 Q (eB 0 Q Q Q (eQ 1 Q Q dO Q (eX 1 [some 1,some 1,none] Q Q (aI 5 Q (c_N hm (fZ ·) Q Q Q Q λr1 hm=>aK 3 Q (iG hm Q (λh2 hm=>?_) (λh2 hm=>?_))))))))
 ·refine aN 1 Q (SX Q Q (cG Q sT dO Q Q Q Q) (s_wk 6 [some 1,some 1,none] Q (aF 5 Q ?_)));obtain rfl:=OJ hm;exact EndsS.cellR _ TK Q Q Q Q Q (.d _)
 refine bD 2 Q (bK follows ?_);iterate 2 (refine DA [0,1] TK Q ?_)
 refine DX [0,1] Q Q (aU TK Q Q Q) (GE hm λg3 hm=>DX [0,1] Q Q (xI (f:=D.bool) (x:=false) TK Q Q kD Q Q Q Q Q g3 Q) ?_);iterate 2 (refine DA [0,1] TK Q ?_)
 refine DX [0,1] Q Q (aU TK Q Q Q) (GE hm λg4 hm=>DX [0,1] Q Q (xI (f:=(D.int .i64)) (x:=(0:Int)) TK Q Q iO Q Q Q Q Q g4 Q) (DX [0,1] Q Q (cG Q sT dO Q Q Q Q) ?_));refine DT ?_ (by kernel_rfl);refine aF 4 Q ?_;obtain rfl:=OJ hm;exact EndsS.cellR _ TK Q Q Q Q Q (.d _)
theorem mW {p0:Int} {r:BA} (hm:dR p0=some r):RetN TP 71 [.int .i64 p0] (.str r):=by
 refine .unit (aP (aX Q) func71 Q ntmps71 Q Q (λwX gX=>?_)) Q;unfold dR at hm;refine WN [0] Q Q (cP 10 Q (bV hm Q (λh1 hm=>?_) (λh1 hm=>?_)))
 ·exact aN 3 Q (GE hm λg2 hm=>SX Q Q (cI Q Q Q Q g2) (GE hm λg3 hm=>SX Q Q (qCX Q Tryd.underlying9 Q Q Q g3) (aF 5 Q (aW hm Q))))
 exact aN 4 Q (GE hm λg4 hm=>SX Q Q (cI Q Q Q Q g4) (aI 1 Q (GE hm λg5 hm=>SX Q Q (cI Q Q Q Q g5) (GE hm λg6 hm=>SX Q Q (cI Q Q Q Q g6) (GE hm λg7 hm=>SX Q Q (qCX Q Tryd.underlying9 Q Q Q g7) (aF 4 Q (aW hm Q)))))))
theorem jG {p0:(List Int)} {p1:Bool} {r:(List Int)} (hm:eC p0 p1=some r):Ret TP 63 [.flat 5 1 (p0.map (D.int .u8))] (λj=>Nat.beq j 0) [.msl 0 1 0 p0.length,.d (.bool (p1))] (.msl 0 1 0 r.length) [.flat 5 1 (r.map (D.int .u8))]:=by
 refine cC (aX Q) func63 Q ntmps63 Q Q (λwX gX=>?_);unfold eC at hm;refine WN [0,1] Q Q (aS 1 Q (iH (f:=(D.int .u8)) 1 5 1 Q Q Q (aK 7 Q (cF hm Q (λh1 hm=>?_) (λh1 hm=>?_)))))
 ·refine aN 2 Q (GE hm λg2 hm=>xQ (xs:=p0) (⟨#[116,114,117,101]⟩:BA) TK Q Q Q mV Q Q Q Q Q (λ_=>Q) Q g2 Q Q (aF 5 Q ?_));obtain rfl:=OJ hm;exact⟨_,[0],res Q,by decide,(kB Q),Q,Q⟩
 refine aN 4 Q (GE hm λg3 hm=>xQ (xs:=p0) (⟨#[102,97,108,115,101]⟩:BA) TK Q Q Q mV Q Q Q Q Q (λ_=>Q) Q g3 Q Q (aF 4 Q ?_));obtain rfl:=OJ hm;exact⟨_,[0],res Q,by decide,(kB Q),Q,Q⟩
theorem kE {p0:(List Int)} {p1:Bool} {r:(List Int)} (hm:dP p0 p1=some r):Ret TP 56 [.flat 5 1 (p0.map (D.int .u8))] (λj=>Nat.beq j 0) [.msl 0 1 0 p0.length,.d (.bool (p1))] (.msl 0 1 0 r.length) [.flat 5 1 (r.map (D.int .u8))]:=by
 refine cC (aX Q) func56 Q ntmps56 Q Q (λwX gX=>?_);unfold dP at hm;refine WN [0,1] Q Q (aS 1 Q (iH (f:=(D.int .u8)) 1 5 1 Q Q Q (aI 5 Q (BE hm λr1 hr1 hm=>?_))));refine eK [0] (λj=>Nat.beq j 0) Q Q Q (by decide) Q Q Q Q (jG hr1) Q Q Q ?_;refine aF 4 Q ?_;obtain rfl:=OJ hm;exact⟨_,[0],res Q,by decide,(kB Q),Q,Q⟩
theorem jF {p0:(List Int)} {p1:Int} {p2:Int} {r:(List Int)} (hm:dB p0 p1 p2=some r):Ret TP 68 [.flat 5 1 (p0.map (D.int .u8))] (λj=>Nat.beq j 0) [.msl 0 1 0 p0.length,.d (.int .u64 p1),.d (.int .i64 p2)] (.msl 0 1 0 r.length) [.flat 5 1 (r.map (D.int .u8))]:=by
 refine cC (aX Q) func68 Q ntmps68 Q Q (λwX gX=>?_);unfold dB at hm;refine WN [0,1,2] Q Q (aS 1 Q (iH (f:=(D.int .u8)) 1 5 1 Q Q Q (aK 8 Q (bV hm Q (λh1 hm=>?_) (λh1 hm=>?_)))))
 ·refine bD 6 Q (bV hm Q (λh2 hm=>?_) (λh2 hm=>?_))
  ·refine aN 3 Q (SX Q Q (zF Q Tryd.underlying118 Tryd.underlying3 Q) (c_N hm (mW ·) Q Q Q Q λr3 hm=>GE hm λg4 hm=>xQ (xs:=p0) r3 TK Q Q Q mV Q Q Q Q Q (λ_=>Q) Q g4 Q Q (aF 6 Q ?_)));obtain rfl:=OJ hm;exact⟨_,[0],res Q,by decide,(kB Q),Q,Q⟩
  cases hm
 cases hm
theorem jY {p0:(List Int)} {p1:Int} {p2:Int} {r:(List Int)} (hm:dK p0 p1 p2=some r):Ret TP 64 [.flat 5 1 (p0.map (D.int .u8))] (λj=>Nat.beq j 0) [.msl 0 1 0 p0.length,.d (.int .i64 p1),.d (.int .i64 p2)] (.msl 0 1 0 r.length) [.flat 5 1 (r.map (D.int .u8))]:=by
 refine cC (aX Q) func64 Q ntmps64 Q Q (λwX gX=>?_);unfold dK at hm;refine WN [0,1,2] Q Q (aS 1 Q (iH (f:=(D.int .u8)) 1 5 1 Q Q Q (aI 4 Q (SX Q Q (zF Q Tryd.underlying2 Tryd.underlying118 Q) (aK 3 Q (bF hm (λ_=>([(0,.msl 0 1 0 p0.length),(7,.d (.int .u64 (IntKind.u64.wrap p1)))])) (λ_=>[]) [0,7] [2] Q (λz1 hm=>?_) (λj hm=>?_)))))))
 ·refine cP 5 Q (bV hm Q (λh2 hm=>?_) (λh2 hm=>?_))
  ·cases hm
  exact aJ 1 Q (e_j [0,1] hm Q (kB Q) Q)
 refine WN [0,2,7] Q Q (aN 4 Q (BE hm λr3 hr3 hm=>?_));refine eK [0] (λj=>Nat.beq j 0) Q Q Q (by decide) Q Q Q Q (jF hr3) Q Q Q ?_;refine aF 4 Q ?_;obtain rfl:=OJ hm;exact⟨_,[0],res Q,by decide,(kB Q),Q,Q⟩
theorem lQ {p0:(List Int)} {p1:Int} {p2:Int} {r:(List Int)} (hm:dA p0 p1 p2=some r):Ret TP 57 [.flat 5 1 (p0.map (D.int .u8))] (λj=>Nat.beq j 0) [.msl 0 1 0 p0.length,.d (.int .i64 p1),.d (.int .i64 p2)] (.msl 0 1 0 r.length) [.flat 5 1 (r.map (D.int .u8))]:=by
 refine cC (aX Q) func57 Q ntmps57 Q Q (λwX gX=>?_);unfold dA at hm;refine WN [0,1,2] Q Q (aS 1 Q (iH (f:=(D.int .u8)) 1 5 1 Q Q Q (aI 6 Q (BE hm λr1 hr1 hm=>?_))));refine eK [0] (λj=>Nat.beq j 0) Q Q Q (by decide) Q Q Q Q (jY hr1) Q Q Q ?_;refine aF 4 Q ?_;obtain rfl:=OJ hm;exact⟨_,[0],res Q,by decide,(kB Q),Q,Q⟩
theorem iK {p0:Machine} {r:BA} (hm:eI p0=some r):RetN TP 40 [p0.enc] (.str r):=by
 refine .unit (aP (aX Q) func40 Q ntmps40 Q Q (λwX gX=>?_)) Q;unfold eI at hm;refine WN [0] Q Q (aS 1 Q (eB 0 Q Q Q (aI 6 Q (qHA (f:=(D.int .u8)) 1 5 1 Q (BE hm λr1 hr1 hm=>?_)))));refine qDO [1] (λj=>Nat.beq j 0) Q Q Q (by decide) Q Q Q Q (kE hr1) (.cons (.nil _ _) (.cons (.refl _) .nil)) Q Q Q ?_;refine aK 3 Q (bF hm (λb2=>([(3,.msl 1 1 0 b2.length)])) (λb2=>([(1,.flat 5 1 (b2.map (D.int .u8)))])) [3] [1] Q (λz3 hm=>?_) (λb2 hm=>?_))
 ·refine aS 3 Q (SX Q Q (aU TK Q Q Q) (aK 4 Q (bP hm (λ(x7,b8)=>([(3,.msl 1 1 0 b8.length),(14,.d (.int .i64 x7))])) (λ(x7,b8)=>([(1,.flat 5 1 (b8.map (D.int .u8)))])) [3,14] [1,12,13] [0,1] Q k0 Q Q Q Q Q (λs z9 hm hz9=>?_))));obtain⟨x7,b8⟩:=s;refine WN [1,3,12,13,14] Q Q (cP 5 Q (bV hm Q (λh10 hm=>?_) (λh10 hm=>?_)))
  ·refine aN 5 Q (VE hm λe11 he11 hm=>SX Q Q (fM TK Q Q Q Q he11) (aK 8 Q (cF hm Q (λh12 hm=>?_) (λh12 hm=>?_))))
   ·exact aN 2 Q (SX Q Q (gK [.const (Value.int IntKind.u8 49)] TK Q Q mV Q Q Q Q Q) (GE hm λg13 hm=>nA (f:=(D.int .u8)) ([(49:Int)]:List Int) TK Q Q mV Q Q Q Q Q (λh=>absurd h (zQV _)) Q mY g13 Q Q (aI 5 Q (GE hm λg14 hm=>SX Q Q (cI Q Q Q Q g14) (aF 2 Q (cQ [0,1] hm Q Q))))))
   exact aN 2 Q (SX Q Q (gK [.const (Value.int IntKind.u8 48)] TK Q Q mV Q Q Q Q Q) (GE hm λg15 hm=>nA (f:=(D.int .u8)) ([(48:Int)]:List Int) TK Q Q mV Q Q Q Q Q (λh=>absurd h (zQV _)) Q mY g15 Q Q (aI 5 Q (GE hm λg16 hm=>SX Q Q (cI Q Q Q Q g16) (aF 2 Q (cQ [0,1] hm Q Q))))))
  refine aJ 2 Q (IE hm λv17 hm hz=>?_);rw [hz9 _ hz] at hm;exact WX (bI 1 Q (bR [0,1] hm Q Q))
 refine WN [1,3] Q Q (bF hm (λb18=>([(3,.msl 1 1 0 b18.length)])) (λb18=>([(1,.flat 5 1 (b18.map (D.int .u8)))])) [3] [] Q (λz19 hm=>?_) (λb18 hm=>?_))
 ·refine aS 3 Q (SX Q Q (aU TK Q Q Q) (aK 4 Q (bP hm (λ(x23,b24)=>([(3,.msl 1 1 0 b24.length),(29,.d (.int .i64 x23))])) (λ(x23,b24)=>([(1,.flat 5 1 (b24.map (D.int .u8)))])) [3,29] [27,28] [0,1] Q k0 Q Q Q Q Q (λs z25 hm hz25=>?_))));obtain⟨x23,b24⟩:=s;refine WN [3,27,28,29] Q Q (cP 5 Q (bV hm Q (λh26 hm=>?_) (λh26 hm=>?_)))
  ·refine aN 5 Q (VE hm λe27 he27 hm=>SX Q Q (fM TK Q Q Q Q he27) (aI 6 Q (SX Q Q (gK [.const (Value.int IntKind.u8 32)] TK Q Q mV Q Q Q Q Q) (GE hm λg28 hm=>nA (f:=(D.int .u8)) ([(32:Int)]:List Int) TK Q Q mV Q Q Q Q Q (λh=>absurd h (zQV _)) Q mY g28 Q Q (aI 6 Q (BE hm λr29 hr29 hm=>?_))))));refine eK [1] (λj=>Nat.beq j 0) Q Q Q (by decide) Q Q Q Q (lQ hr29) Q Q Q ?_;exact aI 5 Q (GE hm λg30 hm=>SX Q Q (cI Q Q Q Q g30) (aF 2 Q (cQ [0,1] hm Q Q)))
  refine aJ 2 Q (IE hm λv31 hm hz=>?_);rw [hz25 _ hz] at hm;exact WX (bI 1 Q (bR [0,1] hm Q Q))
 refine WN [3] Q Q ?_;refine qFU 3 1 [] Q Q Q Q Q (by simp) Q Q ?_;exact aN 2 Q (SX Q Q (x_bstr (xs:=b18) Q Tryd.underlying102 Tryd.underlying5 Tryd.underlying9 Q) (aF 4 Q (aW hm Q)))
theorem yC {p0:Program} {p1:Machine} {r:Bool} (hm:iU p0 p1=some r):RetN TP 48 [p0.enc,p1.enc] (.bool (r)):=by
 refine .unit (aP (aX Q) func48 Q ntmps48 Q Q (λwX gX=>?_)) Q;unfold iU at hm;refine WN [0,1] Q Q (aS 1 Q (eB 0 Q Q Q (eB 1 Q Q Q (aK 4 Q (bF hm (λx1=>([(27,.d (.bool (x1)))])) (λx1=>[]) [27] [2,3] Q (λz2 hm=>?_) (λx1 hm=>?_))))))
 ·refine aS 2 Q (c_N hm (fZ ·) Q Q Q Q λr3 hm=>aI 1 Q (SB TK Q (λq4 hq4=>?_)));cases q4
  ·replace hm:=oI hq4 hm;refine aI 2 Q (SX Q Q (aU TK Q Q Q) (aI 2 Q (SX Q Q (aU TK Q Q Q) (aI 2 Q (SB TK Q (λq5 hq5=>?_))))));cases q5
   ·replace hm:=oI hq5 hm;exact aI 2 Q (SX Q Q (aU TK Q Q Q) (aI 2 Q (SX Q Q (aU TK Q Q Q) (aF 3 Q (bR [0,1] hm Q Q)))))
   replace hm:=oH hq5 hm;exact aF 9 Q (bR [0,1] hm Q Q)
  replace hm:=oH hq4 hm;exact aF 18 Q (bR [0,1] hm Q Q)
 refine WN [2,3,27] Q Q (cF hm Q (λh6 hm=>?_) (λh6 hm=>?_))
 ·exact aJ 6 Q (aW hm Q)
 refine bD 2 Q (bS hm (λ_=>[]) (λ_=>[]) [] [] Q (λz7 hm hz7=>?_) (λj hm=>?_))
 ·refine aS 3 Q (SX Q Q (aU TK Q Q Q) (aK 4 Q (bP hm (λx9=>([(31,.d (.int .i64 x9))])) (λx9=>[]) [31] [3,29,30] [0,1] Q k0 Q Q Q Q Q (λx9 z10 hm hz10=>WN [3,29,30,31] Q Q (cP 5 Q (bV hm Q (λh11 hm=>?_) (λh11 hm=>?_)))))))
  ·refine aN 6 Q (VE hm λe12 he12 hm=>SX Q Q (fM TK Q Q Q Q he12) (aI 1 Q (eQ 2 Q Q mG Q (eX 2 [none,none,none,none,none,some 3] Q Q (aK 4 Q (bF hm (λx13=>([(51,.d (.bool (x13)))])) (λx13=>[]) [51] [3,29,30,31] Q (λz14 hm=>?_) (λx13 hm=>?_)))))))
   ·refine qAU follows ?_;iterate 3 (refine DA [0,1,2] TK Q ?_)
    refine VE hm λe15 he15 hm=>DX [0,1,2] Q Q (fM TK Q Q Q Q he15) ?_;iterate 2 (refine DA [0,1,2] TK Q ?_)
    refine d_b [0,1,2] TK Q (λq16 hq16=>?_);cases q16
    ·replace hm:=JF hq16 hm;iterate 3 (refine DA [0,1,2] TK Q ?_)
     refine VE hm λe17 he17 hm=>DX [0,1,2] Q Q (fM TK Q Q Q Q he17) ?_;iterate 5 (refine DA [0,1,2] TK Q ?_)
     refine DT ?_ (by kernel_rfl);exact aF 1 Q (bR [0,1,2] hm Q Q)
    replace hm:=JT hq16 hm;iterate 9 (refine DA [0,1,2] TK Q ?_)
    refine DT ?_ (by kernel_rfl);exact aF 1 Q (bR [0,1,2] hm Q Q)
   refine WN [3,29,30,31,51] Q Q (cF hm Q (λh18 hm=>?_) (λh18 hm=>?_))
   ·refine aJ 7 Q (IE hm λv19 hm hz=>?_);rw [hz10 _ hz] at hm;refine WR (bI 1 Q (IE hm λv20 hm hz=>?_));rw [hz7 _ hz] at hm;exact WR (aW hm Q)
   exact aN 4 Q (GE hm λg21 hm=>SX Q Q (cI Q Q Q Q g21) (aF 2 Q (cQ [0,1] hm Q Q)))
  refine aJ 2 Q (IE hm λv22 hm hz=>?_);rw [hz10 _ hz] at hm;exact WX (bI 1 Q (cQ [0,1] hm Q Q))
 exact WN [] Q Q (aJ 5 Q (aW hm Q))
theorem nI {p0:Int} {p1:Bool} {r0:Int} {r1:Bool} (hm:dT p0 p1=some (r0,r1)):Ret TP 60 [] (λ_=>false) ([.int .i64 p0,.bool (p1)].map .d) (.tup ([.int .i64 r0,.bool (r1)].map .d)) []:=by
 refine lD (aX Q) func60 Q ntmps60 Q Q (λwX gX=>?_);unfold dT at hm;refine WN [0,1] Q Q (r_px 13 Q ?_);obtain⟨rfl,rfl⟩:=Prod.mk.inj (Option.some.inj hm);exact EndsT.two Q (.d _) (.refl _) (.d _) (.refl _)
theorem nJ {p0:Int} {p1:Bool} {r0:Int} {r1:Bool} (hm:dT p0 p1=some (r0,r1)):RetT TP 60 [.int .i64 p0,.bool (p1)] [.int .i64 r0,.bool (r1)]:=.of (mv:=λ_=>false) (nI hm)
theorem nG {p0:Int} {p1:Bool} {p2:Ae} {r0:Int} {r1:Bool} (hm:cX p0 p1 p2=some (r0,r1)):Ret TP 61 [] (λ_=>false) ([.int .i64 p0,.bool (p1),.ptr (p2.enc) 0].map .d) (.tup ([.int .i64 r0,.bool (r1)].map .d)) []:=by
 refine lD (aX Q) func61 Q ntmps61 Q Q (λwX gX=>?_);unfold cX at hm;refine WN [0,1,2] Q Q (cP 11 Q (cF hm Q (λh1 hm=>?_) (λh1 hm=>?_)))
 ·refine aJ 7 Q ?_;obtain⟨rfl,rfl⟩:=Prod.mk.inj (Option.some.inj hm);exact EndsT.two Q (.d _) (.refl _) (.d _) (.refl _)
 refine bD 10 Q (bV hm Q (λh2 hm=>?_) (λh2 hm=>?_))
 ·refine aN 2 Q (GE hm λg3 hm=>SX Q Q (cI Q Q Q Q g3) (aK 3 Q (bK follows ?_)));iterate 6 (refine DA [] TK Q ?_)
  refine DT ?_ (by kernel_rfl);refine aK 3 Q (WN [5,6] Q Q (aJ 1 Q ?_));obtain⟨rfl,rfl⟩:=Prod.mk.inj (Option.some.inj hm);exact EndsT.two Q (.d _) (.refl _) (.d _) (.refl _)
 refine bD 2 Q (bK follows ?_);iterate 6 (refine DA [] TK Q ?_)
 refine DT ?_ (by kernel_rfl);refine aK 3 Q (WN [5,6] Q Q (aJ 1 Q ?_));obtain⟨rfl,rfl⟩:=Prod.mk.inj (Option.some.inj hm);exact EndsT.two Q (.d _) (.refl _) (.d _) (.refl _)
theorem nH {p0:Int} {p1:Bool} {p2:Ae} {r0:Int} {r1:Bool} (hm:cX p0 p1 p2=some (r0,r1)):RetT TP 61 [.int .i64 p0,.bool (p1),.ptr (p2.enc) 0] [.int .i64 r0,.bool (r1)]:=.of (mv:=λ_=>false) (nG hm)
theorem qR {p0:Ae} {r:Al} (hm:fC p0=some r):RetD TP 52 [p0.enc] (r.enc):=by
 refine .of (mv:=λ_=>false) (aP (aX Q) func52 Q ntmps52 Q Q (λwX gX=>?_));unfold fC at hm;refine WN [0] Q Q (aS 1 Q (eB 0 Q Q Q (eQ 1 Q Q xH Q (aK 9 Q (iG hm Q (λh1 hm=>?_) (λh1 hm=>?_))))))
 ·refine aN 1 Q (SX Q Q (cG Q qIX xH Q Q Q Q) (aF 5 Q ?_));obtain rfl:=OJ hm;exact EndsS.cellR _ TK Q Q Q Q Q (.d _)
 refine bD 2 Q (qAO 0 Q Q Q Q Q (aN 2 Q (SX Q Q (cG Q qIX xH Q Q Q Q) (aF 4 Q ?_))));obtain rfl:=OJ hm;exact EndsS.cellR _ TK Q Q Q Q Q (.d _)
theorem sG {p0:Ab} {r:Aj} (hm:gD p0=some r):RetD TP 65 [.ptr (p0.enc) 0] (r.enc):=by
 refine .of (mv:=λ_=>false) (aP (aX Q) func65 Q ntmps65 Q Q (λwX gX=>?_));unfold gD at hm;refine WN [0] Q Q (cP 18 Q (bV hm Q (λh1 hm=>?_) (λh1 hm=>?_)))
 ·exact aN 2 Q (SX Q Q (cG Q plc112 tJ Q Q Q Q) (aF 7 Q (aW hm Q)))
 refine bD 5 Q (bV hm Q (λh2 hm=>?_) (λh2 hm=>?_))
 ·refine aN 5 Q (SX Q Q (aU TK Q Q Q) (aK 3 Q (bV hm Q (λh3 hm=>?_) (λh3 hm=>?_))))
  ·exact aN 2 Q (SX Q Q (cG Q plc113 tI Q Q Q Q) (aK 4 Q (WN [2] Q Q (aJ 3 Q (aW hm Q)))))
  exact bD 3 Q (WN [0] Q Q (aN 2 Q (SX Q Q (cG Q qEF zD Q Q Q Q) (aF 5 Q (aW hm Q)))))
 refine bD 5 Q (bV hm Q (λh4 hm=>?_) (λh4 hm=>?_))
 ·exact aN 2 Q (SX Q Q (cG Q plc114 tH Q Q Q Q) (aK 4 Q (WN [2] Q Q (aJ 3 Q (aW hm Q)))))
 refine bD 5 Q (bV hm Q (λh5 hm=>?_) (λh5 hm=>?_))
 ·exact aN 2 Q (SX Q Q (cG Q plc115 tG Q Q Q Q) (aK 4 Q (WN [2] Q Q (aJ 3 Q (aW hm Q)))))
 exact aN 5 Q (SX Q Q (cG Q qEF zD Q Q Q Q) (aK 4 Q (WN [2] Q Q (aJ 1 Q (aW hm Q)))))
theorem uQ:∀ (fu:Nat) {p0:Ab} {p1:(List Bool)} {r:Bool} (hm:cN fu p0 p1=some r),RetN TP 58 [.ptr (p0.enc) 0,.sl 1 (p1.map D.bool)] (.bool (r)):=by
 intro fu
 induction fu with
 | zero=>
  intro p0 p1 r hm;unfold cN at hm;cases hm
 | succ fu ih=>
  intro p0 p1 r hm;refine .unit (aP (aX Q) func58 Q ntmps58 Q Q (λwX gX=>?_)) Q;unfold cN at hm;refine WN [0,1] Q Q (cP 4 Q (bS hm (λ_=>[]) (λ_=>[]) [] [0] Q (λz1 hm hz1=>?_) (λj hm=>?_)))
  ·refine aS 2 Q (c_D hm (sG ·) Q Q Q Q λr2 hm=>aI 4 Q ?_);by_cases h3:r2.tid=112
   ·rw [if_pos h3] at hm;refine SX Q Q (zG Q qAK Q h3) (aK 4 Q ?_);refine TC true Q (λ_=>?_) (λh=>by cases h);refine aN 1 Q (eQ 0 Q Q tJ Q (aK 3 Q (bF hm (λx4=>([(4,.d (.bool (x4)))])) (λx4=>[]) [4] [] Q (λz5 hm=>?_) (λx4 hm=>?_))))
    ·refine aS 7 Q (SB TK Q (λq6 hq6=>?_));cases q6
     ·replace hm:=JF hq6 hm;exact aF 21 Q (bR [0] hm Q Q)
     replace hm:=JT hq6 hm;refine aI 6 Q (SX Q Q (aU TK Q Q Q) (aI 2 Q (SB TK Q (λq7 hq7=>?_))));cases q7
     ·replace hm:=JF hq7 hm;exact aF 11 Q (bR [0] hm Q Q)
     replace hm:=JT hq7 hm;exact aI 6 Q (VE hm λe8 he8 hm=>SX Q Q (fM TK Q Q Q Q he8) (aF 4 Q (bR [0] hm Q Q)))
    refine WN [4] Q Q (aJ 2 Q (IE hm λv9 hm hz=>?_));rw [hz1 _ hz] at hm;exact WR (aW hm Q)
   rw [if_neg h3] at hm;refine SX Q Q (zH Q qAK Q h3 tJ Q) (aK 4 Q (TC false Q (λh=>by cases h) (λ_=>aN 1 Q ?_)));by_cases h10:r2.tid=113
   ·rw [if_pos h10] at hm;refine SX Q Q (zG Q qAJ Q h10) (aK 4 Q ?_);refine TC true Q (λ_=>?_) (λh=>by cases h);refine aN 1 Q (eQ 0 Q Q tI Q (aI 9 Q (VE hm λe11 he11 hm=>SX Q Q (oR TK Q Q Q Q he11 (Ab.Ag _)) (aI 1 Q (c_N hm (ih ·) Q Q Q Q λr12 hm=>aK 4 Q (WN [4] Q Q (aJ 2 Q (IE hm λv13 hm hz=>?_))))))));rw [hz1 _ hz] at hm;exact WR (aW hm Q)
   rw [if_neg h10] at hm;refine SX Q Q (zH Q qAJ Q h10 tI Q) (aK 4 Q (TC false Q (λh=>by cases h) (λ_=>aN 1 Q ?_)));by_cases h14:r2.tid=114
   ·rw [if_pos h14] at hm;refine SX Q Q (zG Q qAI Q h14) (aK 4 Q ?_);refine TC true Q (λ_=>?_) (λh=>by cases h);refine aN 1 Q (eQ 0 Q Q tH Q (aK 3 Q (bS hm (λ_=>[]) (λ_=>[]) [] [] Q (λz15 hm hz15=>?_) (λj hm=>?_))))
    ·refine aS 6 Q (SX Q Q (aU TK Q Q Q) (aK 3 Q (WN [1,7,62,63] Q Q (bD 1 Q (bP hm (λx17=>([(63,.d (.int .i64 x17))])) (λx17=>[]) [63] [1,7,62] [0] Q k0 Q Q Q Q Q (λx17 z18 hm hz18=>WN [1,7,62,63] Q Q (cP 5 Q (bV hm Q (λh19 hm=>?_) (λh19 hm=>?_)))))))))
     ·refine aN 16 Q (VE hm λe20 he20 hm=>SX Q Q (oR TK Q Q Q Q he20 (Ab.Ag _)) (aI 1 Q (c_N hm (ih ·) Q Q Q Q λr21 hm=>aK 3 Q (cF hm Q (λh22 hm=>?_) (λh22 hm=>?_)))))
      ·refine bD 4 Q (WN [4] Q Q (aJ 3 Q (IE hm λv23 hm hz=>?_)));rw [hz18 _ hz] at hm;refine WR (bI 1 Q (IE hm λv24 hm hz=>?_));rw [hz15 _ hz] at hm;refine WR (bI 1 Q (IE hm λv25 hm hz=>?_));rw [hz1 _ hz] at hm;exact WR (aW hm Q)
      exact aN 4 Q (GE hm λg26 hm=>SX Q Q (cI Q Q Q Q g26) (aF 2 Q (cQ [0] hm Q Q)))
     refine aJ 2 Q (IE hm λv27 hm hz=>?_);rw [hz18 _ hz] at hm;exact WX (bI 1 Q (cQ [0] hm Q Q))
    refine WN [] Q Q (aJ 6 Q (IE hm λv28 hm hz=>?_));rw [hz1 _ hz] at hm;exact WR (aW hm Q)
   rw [if_neg h14] at hm;refine SX Q Q (zH Q qAI Q h14 tH Q) (aK 4 Q (TC false Q (λh=>by cases h) (λ_=>aN 1 Q ?_)));by_cases h29:r2.tid=115
   ·rw [if_pos h29] at hm;refine SX Q Q (zG Q qAH Q h29) (aK 4 Q ?_);refine TC true Q (λ_=>?_) (λh=>by cases h);refine aN 1 Q (eQ 0 Q Q tG Q (aK 3 Q (WN [1,9] Q Q (bS hm (λ_=>[]) (λ_=>[]) [] [] Q (λz30 hm hz30=>?_) (λj hm=>?_)))))
    ·refine aS 6 Q (SX Q Q (aU TK Q Q Q) (aK 4 Q (bP hm (λx32=>([(86,.d (.int .i64 x32))])) (λx32=>[]) [86] [1,9,85] [0] Q k0 Q Q Q Q Q (λx32 z33 hm hz33=>WN [1,9,85,86] Q Q (cP 5 Q (bV hm Q (λh34 hm=>?_) (λh34 hm=>?_)))))))
     ·refine aN 16 Q (VE hm λe35 he35 hm=>SX Q Q (oR TK Q Q Q Q he35 (Ab.Ag _)) (aI 1 Q (c_N hm (ih ·) Q Q Q Q λr36 hm=>aK 2 Q (cF hm Q (λh37 hm=>?_) (λh37 hm=>?_)))))
      ·refine bD 4 Q (WN [4] Q Q (aJ 3 Q (IE hm λv38 hm hz=>?_)));rw [hz33 _ hz] at hm;refine WR (bI 1 Q (IE hm λv39 hm hz=>?_));rw [hz30 _ hz] at hm;refine WR (bI 1 Q (IE hm λv40 hm hz=>?_));rw [hz1 _ hz] at hm;exact WR (aW hm Q)
      exact aN 4 Q (GE hm λg41 hm=>SX Q Q (cI Q Q Q Q g41) (aF 2 Q (cQ [0] hm Q Q)))
     refine aJ 2 Q (IE hm λv42 hm hz=>?_);rw [hz33 _ hz] at hm;exact WX (bI 1 Q (cQ [0] hm Q Q))
    refine WN [] Q Q (aJ 6 Q (IE hm λv43 hm hz=>?_));rw [hz1 _ hz] at hm;exact WR (aW hm Q)
   rw [if_neg h29] at hm;exact SX Q Q (zH Q qAH Q h29 tG Q) (aK 4 Q (TC false Q (λh=>by cases h) (λ_=>aJ 2 Q (cQ [] hm Q Q))))
  exact WN [0] Q Q (aJ 10 Q (aW hm Q))
theorem xA {p0:Ab} {p1:(List Bool)} {r:Bool} (hm:oL p0 p1=some r):RetN TP 58 [.ptr (p0.enc) 0,.sl 1 (p1.map D.bool)] (.bool (r)):=uQ aZ hm
theorem oZ {p0:Ab} {p1:(List Bool)} {r:Bool} (hm:gQ p0 p1=some r):RetN TP 43 [p0.enc,.sl 1 (p1.map D.bool)] (.bool (r)):=by
 refine .unit (aP (aX Q) func43 Q ntmps43 Q Q (λwX gX=>?_)) Q;unfold gQ at hm;exact WN [0,1] Q Q (aS 1 Q (eB 0 Q Q Q (aK 3 Q (qAO 0 Q Q Q Q Q (aN 2 Q (c_N hm (xA ·) Q Q Q Q λr1 hm=>aF 4 Q (aW hm Q)))))))
theorem rY {p0:Program} {r:Machine} (hm:dX p0=some r):Ret TP 31 [] (λ_=>false) ([p0.enc].map .d) (.agg [.msl 0 1 0 r.vars.length,.msl 1 1 0 r.counts.length,.d (.bool (r.halted))]) [.flat 4 1 (r.vars.map D.bool),.flat 3 1 (r.counts.map (D.int .i64))]:=by
 refine cC (aX Q) func31 Q ntmps31 Q Q (λwX gX=>?_);unfold dX at hm;refine WN [0] Q Q (aS 1 Q (eB 0 Q Q Q (eQ 1 Q Q dO Q (jP (f:=D.bool) 1 0 2 4 1 Q Q Q (jP (f:=(D.int .i64)) 1 1 3 3 1 Q Q Q (aI 5 Q (c_N hm (fZ ·) Q Q Q Q λr1 hm=>aK 3 Q (iG hm Q (λh2 hm=>?_) (λh2 hm=>?_)))))))))
 ·refine aN 1 Q (SX Q Q (iT Q sT dO Q Q Q Q) (aI 1 Q (jP (f:=D.bool) 1 0 4 4 1 Q Q Q (jP (f:=(D.int .i64)) 1 1 5 3 1 Q Q Q (aK 2 Q (WN [2] Q Q (aJ 2 Q ?_)))))));obtain rfl:=OJ hm;exact⟨_,[4,5],.mk _ (.cons (.agg (TK.lay Q) Q Q Q Q) .nil) Q,by decide,k0,Q,Q⟩
 refine bD 2 Q (gS (gS (bK follows (DA [] TK Q (DA [0] TK Q (DX [] Q Q (aU TK Q Q Q) (GE hm λg3 hm=>yS [4] _ (.msl 4 1 0 (List.replicate (p0.names.length:Int).toNat false).length) Q (jR Q) Q (qIU (f:=D.bool) (x:=false) TK Q Q Q kD Q Q Q Q Q g3 Q) (DA [] TK Q (DA [0] TK Q (DX [] Q Q (aU TK Q Q Q) (GE hm λg4 hm=>yS [5] _ (.msl 5 1 0 (List.replicate (p0.Ac.length:Int).toNat (0:Int)).length) Q (jR Q) Q (qIU (f:=(D.int .i64)) (x:=(0:Int)) TK Q Q Q iO Q Q Q Q Q g4 Q) ?_)))))))))));refine DX [] Q Q (iT Q sT dO Q Q Q Q) ?_;refine DT ?_ (by kernel_rfl);refine aK 3 Q (WN [2] Q Q (aJ 1 Q ?_));obtain rfl:=OJ hm;exact⟨_,[4,5],.mk _ (.cons (.agg (TK.lay Q) Q Q Q Q) .nil) Q,by decide,k0,Q,Q⟩
theorem uA {p0:Program} {r:Machine} (hm:kO p0=some r):Ret TP 49 [] (λ_=>false) ([p0.enc].map .d) (.agg [.msl 0 1 0 r.vars.length,.msl 1 1 0 r.counts.length,.d (.bool (r.halted))]) [.flat 4 1 (r.vars.map D.bool),.flat 3 1 (r.counts.map (D.int .i64))]:=by
 refine cC (aX Q) func49 Q ntmps49 Q Q (λwX gX=>?_);unfold kO at hm;refine WN [0] Q Q (aS 1 Q (eB 0 Q Q Q (eQ 1 Q Q dO Q (jP (f:=D.bool) 1 0 2 4 1 Q Q Q (jP (f:=(D.int .i64)) 1 1 3 3 1 Q Q Q (aI 4 Q (BE hm λr1 hr1 hm=>lC Q Q Q (rY hr1) Q Q (qI 5 (.agg [.msl 4 1 0 r1.vars.length,.msl 5 1 0 r1.counts.length,.d (.bool (r1.halted))]) Q Q (eQ 6 Q Q dO Q (jP (f:=D.bool) 6 0 7 4 1 Q Q Q (jP (f:=(D.int .i64)) 6 1 8 3 1 Q Q Q (aK 3 Q ?_))))))))))));refine WN [2,3] Q Q (bD 5 Q (WN [2,3] Q Q (bD 5 Q (WN [2] Q Q (aJ 1 Q ?_)))));obtain rfl:=OJ hm;exact⟨_,[4,5],.mk _ (.cons (.agg (TK.lay Q) Q Q Q Q) .nil) Q,by decide,k0,Q,Q⟩
theorem jZ {p0:(List Bool)} {r:(List Bool)} (hm:dC p0=some r):Ret TP 50 [] (λ_=>false) ([.sl 1 (p0.map D.bool)].map .d) (.msl 0 1 0 r.length) [.flat 4 1 (r.map D.bool)]:=by
 refine cC (aX Q) func50 Q ntmps50 Q Q (λwX gX=>?_);unfold dC at hm;refine WN [0] Q Q (aS 1 Q (iH (f:=D.bool) 0 4 1 Q Q Q (aI 5 Q (zM Q Tryd.underlying40 Q Q (λb1 hb1=>aK 2 Q (TC _ Q (λh2=>?_) (λh2=>?_)))))))
 ·obtain⟨hnb1,hm⟩:=qJB (hb1 h2) hm;subst hnb1;refine aN 1 Q (iH (f:=D.bool) 1 4 1 Q Q Q (aF 4 Q ?_));obtain rfl:=OJ hm;exact⟨_,[1],res Q,by decide,k0,Q,Q⟩
 replace hm:=qJC hm;refine aN 3 Q (xP (f:=D.bool) 1 [] ([]:List Bool) TK Q Q Q kD Q Q Q Q Q (aI 1 Q (GE hm λg3 hm=>nA (f:=D.bool) p0 TK Q Q kD Q Q Q Q Q (λh=>absurd h (zQV _)) Q mY g3 Q Q (aF 4 Q ?_))));obtain rfl:=OJ hm;exact⟨_,[1],res Q,by decide,k0,Q,Q⟩
theorem kG {p0:(List Int)} {r:(List Int)} (hm:dL p0=some r):Ret TP 51 [] (λ_=>false) ([.sl 1 (p0.map (D.int .i64))].map .d) (.msl 0 1 0 r.length) [.flat 3 1 (r.map (D.int .i64))]:=by
 refine cC (aX Q) func51 Q ntmps51 Q Q (λwX gX=>?_);unfold dL at hm;refine WN [0] Q Q (aS 1 Q (iH (f:=(D.int .i64)) 0 3 1 Q Q Q (aI 5 Q (zM Q Tryd.underlying30 Q Q (λb1 hb1=>aK 2 Q (TC _ Q (λh2=>?_) (λh2=>?_)))))))
 ·obtain⟨hnb1,hm⟩:=qJB (hb1 h2) hm;subst hnb1;refine aN 1 Q (iH (f:=(D.int .i64)) 1 3 1 Q Q Q (aF 4 Q ?_));obtain rfl:=OJ hm;exact⟨_,[1],res Q,by decide,k0,Q,Q⟩
 replace hm:=qJC hm;refine aN 3 Q (xP (f:=(D.int .i64)) 1 [] ([]:List Int) TK Q Q Q iO Q Q Q Q Q (aI 1 Q (GE hm λg3 hm=>nA (f:=(D.int .i64)) p0 TK Q Q iO Q Q Q Q Q (λh=>absurd h (zQV _)) Q mY g3 Q Q (aF 4 Q ?_))));obtain rfl:=OJ hm;exact⟨_,[1],res Q,by decide,k0,Q,Q⟩
theorem mK {p0:Program} {p1:Machine} {p2:(List Bool)} {r:Machine} (hm:fY p0 p1 p2=some r):RetD TP 32 [p0.enc,p1.enc,.sl 1 (p2.map D.bool)] (r.enc):=by
 refine .of (mv:=λ_=>false) (aP (aX Q) func32 Q ntmps32 Q Q (λwX gX=>?_));unfold fY at hm;refine WN [0,1,2] Q Q (aS 1 Q (eB 0 Q Q Q (eB 1 Q Q Q (eQ 2 Q Q dO Q (jP (f:=D.bool) 2 0 3 4 1 Q Q Q (jP (f:=(D.int .i64)) 2 1 4 3 1 Q Q Q (aK 2 Q (WN [2,3,4,6] Q Q (bD 1 Q (bF hm (λx1=>([(18,.d (.bool (x1)))])) (λx1=>[]) [18] [2,3,4,6] Q (λz2 hm=>?_) (λx1 hm=>?_)))))))))))
 ·refine aS 3 Q (SB TK Q (λq3 hq3=>?_));cases q3
  ·replace hm:=JB hq3 hm;exact aI 2 Q (c_N hm (yC ·) Q Q Q Q λr4 hm=>aF 3 Q (bR [0,1,2,3,4] hm Q Q))
  replace hm:=JA hq3 hm;exact aF 6 Q (bR [0,1,2,3,4] hm Q Q)
 refine WN [2,3,4,6,18] Q Q (cF hm Q (λh5 hm=>?_) (λh5 hm=>?_))
 ·refine aN 2 Q (BE hm λr6 hr6 hm=>lC Q Q Q (uA hr6) Q Q (qI 20 (.agg [.msl 5 1 0 r6.vars.length,.msl 6 1 0 r6.counts.length,.d (.bool (r6.halted))]) Q Q (aK 3 Q (WN [6] Q Q (aJ 2 Q ?_)))));obtain rfl:=OJ hm;exact EndsS.cellR _ TK Q Q Q Q Q (vK (.cons (iP Q) Q (.cons (iP Q) Q (.cons (.d _) Q .nil))))
 refine bD 2 Q (gS (gS (gS (bK follows (DA [] TK Q (DA [1] TK Q (BE hm λr7 hr7 hm=>?_)))))));refine yS [5] [(5,.flat 4 1 (r7.map D.bool))] (.msl 5 1 0 r7.length) Q (jR Q) Q (vE (Bs:=[.flat 4 1 (r7.map D.bool)]) [5] (by intro i h;simp only [zQB,List.not_mem_nil,or_false] at h;rcases h with rfl<;>rfl) (by decide) Q Q Q Q (jZ hr7) (by intro B h;simp only [zQB,List.not_mem_nil,or_false] at h;rcases h with rfl<;>exact tA (λ_=>Q)) (.msl _ _ _ _) Q (by intro B h;simp only [zQB,List.not_mem_nil,or_false] at h;rcases h with rfl<;>rfl)) ?_;refine DA [] TK Q (DA [1] TK Q (BE hm λr8 hr8 hm=>?_));refine yS [6] [(6,.flat 3 1 (r8.map (D.int .i64)))] (.msl 6 1 0 r8.length) Q (jR Q) Q (vE (Bs:=[.flat 3 1 (r8.map (D.int .i64))]) [6] (by intro i h;simp only [zQB,List.not_mem_nil,or_false] at h;rcases h with rfl<;>rfl) (by decide) Q Q Q Q (kG hr8) (by intro B h;simp only [zQB,List.not_mem_nil,or_false] at h;rcases h with rfl<;>exact tA (λ_=>Q)) (.msl _ _ _ _) Q (by intro B h;simp only [zQB,List.not_mem_nil,or_false] at h;rcases h with rfl<;>rfl)) ?_;refine DX [] Q Q (iT Q sT dO Q Q Q Q) (yS [7] _ (.mptr 7 0 0 0) Q (jR Q) Q (tL Q Q dO Q Q) ?_);refine DT ?_ (by kernel_rfl);refine aK 3 Q (WN [2,3,6,7] Q Q (bF hm (λb9=>[]) (λb9=>([(5,.flat 4 1 (b9.map D.bool)),(7,.box 42 [.msl 5 1 0 b9.length,.msl 6 1 0 r8.length,.d (.bool (false))])])) [] [3,6,7] Q (λz10 hm=>?_) (λb9 hm=>?_)))
 ·refine cP 7 Q (bP hm (λ(x14,b15)=>([(30,.d (.int .i64 x14))])) (λ(x14,b15)=>([(5,.flat 4 1 (b15.map D.bool)),(7,.box 42 [.msl 5 1 0 b15.length,.msl 6 1 0 r8.length,.d (.bool (false))])])) [30] [2,3,6,7,29] [0,1,2,3,4,5,6,7] Q k0 Q Q Q Q Q (λs z16 hm hz16=>?_));obtain⟨x14,b15⟩:=s;refine WN [2,3,6,7,29,30] Q Q (cP 5 Q (bV hm Q (λh17 hm=>?_) (λh17 hm=>?_)))
  ·refine bD 9 Q (lA follows ?_);iterate 5 (refine DA [0,1,2,3,4,5,6,7] TK Q ?_)
   refine DX [0,1,2,3,4,5,6,7] Q Q (aU TK Q Q Q) (DA [0,1,2,3,4,5,6,7] TK Q (d_b [0,1,2,3,4,5,6,7] TK Q (λq18 hq18=>?_)));cases q18
   ·replace hm:=JF hq18 hm;iterate 5 (refine DA [0,1,2,3,4,5,6,7] TK Q ?_)
    refine VE hm λe19 he19 hm=>DX [0,1,2,3,4,5,6,7] Q Q (eZ TK Q Q Q Q he19 Q) ?_;refine DT ?_ (by kernel_rfl);refine qH (x':=false) TK Q Q Q Q Q he19.2 Q Q Q (fK 34 (b15.set x14.toNat false).length Q List.length_set.symm ?_);refine sK 7 [.msl 5 1 0 (b15.set x14.toNat false).length,.msl 6 1 0 r8.length,.d (.bool (false))] Q (by simp only [List.length_set]<;>rfl) ?_;exact aK 3 Q (WN [2,3,6,7,29,30] Q Q (aN 1 Q (GE hm λg20 hm=>SX Q Q (cI Q Q Q Q g20) (aF 2 Q (cQ [0,1,2,3,4,5,6,7] hm Q Q)))))
   replace hm:=JT hq18 hm;iterate 2 (refine DA [0,1,2,3,4,5,6,7] TK Q ?_)
   refine VE hm λe21 he21 hm=>DX [0,1,2,3,4,5,6,7] Q Q (fM TK Q Q Q Q he21) ?_;iterate 2 (refine DA [0,1,2,3,4,5,6,7] TK Q ?_)
   refine VE hm λe22 he22 hm=>DX [0,1,2,3,4,5,6,7] Q Q (eZ TK Q Q Q Q he22 Q) ?_;refine DT ?_ (by kernel_rfl);refine qH (x':=e21) TK Q Q Q Q Q he22.2 Q Q Q (fK 34 (b15.set x14.toNat e21).length Q List.length_set.symm ?_);refine sK 7 [.msl 5 1 0 (b15.set x14.toNat e21).length,.msl 6 1 0 r8.length,.d (.bool (false))] Q (by simp only [List.length_set]<;>rfl) ?_;exact aK 3 Q (WN [2,3,6,7,29,30] Q Q (aN 1 Q (GE hm λg23 hm=>SX Q Q (cI Q Q Q Q g23) (aF 2 Q (cQ [0,1,2,3,4,5,6,7] hm Q Q)))))
  refine aJ 2 Q (IE hm λv24 hm hz=>?_);rw [hz16 _ hz] at hm;exact WX (bI 1 Q (bR [0,1,2,3,4,5,6,7] hm Q Q))
 refine WN [3,6,7] Q Q (bF hm (λ(b25,b26)=>[]) (λ(b25,b26)=>([(5,.flat 4 1 (b25.map D.bool)),(6,.flat 3 1 (b26.map (D.int .i64))),(7,.box 42 [.msl 5 1 0 b25.length,.msl 6 1 0 b26.length,.d (.bool (false))])])) [] [6,7] Q (λz27 hm=>?_) (λj hm=>?_))
 ·refine aS 3 Q (SX Q Q (aU TK Q Q Q) (aK 4 Q (bP hm (λ(x32,b33,b34)=>([(51,.d (.int .i64 x32))])) (λ(x32,b33,b34)=>([(5,.flat 4 1 (b33.map D.bool)),(6,.flat 3 1 (b34.map (D.int .i64))),(7,.box 42 [.msl 5 1 0 b33.length,.msl 6 1 0 b34.length,.d (.bool (false))])])) [51] [6,7,49,50] [0,1,2,3,4,5,6,7] Q k0 Q Q Q Q Q (λs z35 hm hz35=>?_))));obtain⟨x32,b33,b34⟩:=s;refine WN [6,7,49,50,51] Q Q (cP 5 Q (bV hm Q (λh36 hm=>?_) (λh36 hm=>?_)))
  ·refine aN 6 Q (VE hm λe37 he37 hm=>SX Q Q (fM TK Q Q Q Q he37) (aI 1 Q (eQ 8 Q Q mG Q (eX 8 [none,none,none,none,none,some 3] Q Q (aK 4 Q (WN [6,7,9,10,49,50,51] Q Q (lA follows (DA [] TK Q (DA [7] TK Q ?_)))))))));iterate 2 (refine DA [] TK Q ?_)
   refine DA [7] TK Q (DA [] TK Q ?_);iterate 2 (refine DA [8] TK Q ?_)
   refine qIL [] hm (qR ·) Q Q Q Q λr38 hm=>?_;iterate 2 (refine DA [] TK Q ?_)
   refine DA [7] TK Q (DA [] TK Q (VE hm λe39 he39 hm=>DX [] Q Q (eZ TK Q Q Q Q he39 Q) (DX [6] Q Q (lU TK Q Q Q Q he39.2 Q) (DA [] TK Q (DA [8] TK Q (DA [] TK Q (DA [7] TK Q (BE hm λr40 hr40 hm=>DX [5] Q Q (RN Q Q (SC (.d _) (SC (iP Q) SN)) (oZ hr40)) ?_))))))))
   cases h41:r38.act with
   | c60=>
    rw [h41] at hm;dsimp only at hm;refine BE hm λr42 hr42 hm=>?_;obtain⟨r43,r44⟩:=r42;refine DX [] Q Q (oB (ds:=[.int .i64 e39,.bool (r40)]) Q Q Q Q (nJ hr42)) ?_;iterate 3 (refine DA [] TK Q ?_)
    refine VE hm λe45 he45 hm=>DX [] Q Q (eZ TK Q Q Q Q he45 Q) (d_st 1000023 [6] [(6,.flat 3 1 ((b34.set x32.toNat r43).map (D.int .i64)))] (jR Q) Q (qCZ (z':=r43) TK Q Q Q Q Q Q Q he45.2 Q Q Q) (VE hm λe46 he46 hm=>DX [] Q Q (eZ TK Q Q Q Q he46 Q) ?_));refine DT ?_ (by kernel_rfl);refine fK 58 (b34.set x32.toNat r43).length Q List.length_set.symm (fK 68 (b34.set x32.toNat r43).length Q List.length_set.symm ?_);refine sK 7 [.msl 5 1 0 b33.length,.msl 6 1 0 (b34.set x32.toNat r43).length,.d (.bool (false))] Q (by simp only [List.length_set]<;>rfl) ?_;refine qH (x':=r44) TK Q Q Q Q Q he46.2 Q Q Q (fK 61 (b33.set e37.var.toNat r44).length Q List.length_set.symm (fK 75 (b33.set e37.var.toNat r44).length Q List.length_set.symm ?_));refine sK 7 [.msl 5 1 0 (b33.set e37.var.toNat r44).length,.msl 6 1 0 (b34.set x32.toNat r43).length,.d (.bool (false))] Q (by simp only [List.length_set]<;>rfl) ?_;exact aK 3 Q (WN [6,7,49,50,51] Q Q (aN 1 Q (GE hm λg47 hm=>SX Q Q (cI Q Q Q Q g47) (aF 2 Q (cQ [0,1,2,3,4,5,6,7] hm Q Q)))))
   | c61 u48=>
    rw [h41] at hm;dsimp only at hm;refine BE hm λr49 hr49 hm=>?_;obtain⟨r50,r51⟩:=r49;refine DX [] Q Q (oB (ds:=[.int .i64 e39,.bool (r40)]) Q Q Q Q (nH hr49)) ?_;iterate 3 (refine DA [] TK Q ?_)
    refine VE hm λe52 he52 hm=>DX [] Q Q (eZ TK Q Q Q Q he52 Q) (d_st 1000024 [6] [(6,.flat 3 1 ((b34.set x32.toNat r50).map (D.int .i64)))] (jR Q) Q (qCZ (z':=r50) TK Q Q Q Q Q Q Q he52.2 Q Q Q) (VE hm λe53 he53 hm=>DX [] Q Q (eZ TK Q Q Q Q he53 Q) ?_));refine DT ?_ (by kernel_rfl);refine fK 58 (b34.set x32.toNat r50).length Q List.length_set.symm (fK 68 (b34.set x32.toNat r50).length Q List.length_set.symm ?_);refine sK 7 [.msl 5 1 0 b33.length,.msl 6 1 0 (b34.set x32.toNat r50).length,.d (.bool (false))] Q (by simp only [List.length_set]<;>rfl) ?_;refine qH (x':=r51) TK Q Q Q Q Q he53.2 Q Q Q (fK 61 (b33.set e37.var.toNat r51).length Q List.length_set.symm (fK 75 (b33.set e37.var.toNat r51).length Q List.length_set.symm ?_));refine sK 7 [.msl 5 1 0 (b33.set e37.var.toNat r51).length,.msl 6 1 0 (b34.set x32.toNat r50).length,.d (.bool (false))] Q (by simp only [List.length_set]<;>rfl) ?_;exact aK 3 Q (WN [6,7,49,50,51] Q Q (aN 1 Q (GE hm λg54 hm=>SX Q Q (cI Q Q Q Q g54) (aF 2 Q (cQ [0,1,2,3,4,5,6,7] hm Q Q)))))
  refine aJ 2 Q (IE hm λv55 hm hz=>?_);rw [hz35 _ hz] at hm;exact WX (bI 1 Q (bR [0,1,2,3,4,5,6,7] hm Q Q))
 obtain⟨b25,b26⟩:=j;refine WN [6,7] Q Q (bD 5 Q (WN [6] Q Q (aJ 1 Q ?_)));obtain rfl:=OJ hm;exact EndsS.cellR _ TK Q Q Q Q Q (vK (.cons (iP Q) Q (.cons (iP Q) Q (.cons (.d _) Q .nil))))
theorem nM {p0:Aa} {p1:Machine} {r:Bool} (hm:dU p0 p1=some r):RetN TP 42 [p0.enc,.ptr (p1.enc) 0] (.bool (r)):=by
 refine .unit (aP (aX Q) func42 Q ntmps42 Q Q (λwX gX=>?_)) Q;unfold dU at hm;exact WN [0,1] Q Q (aS 1 Q (eB 0 Q Q Q (aI 8 Q (c_N hm (oZ ·) Q Q Q Q λr1 hm=>aF 5 Q (aW hm Q)))))
theorem fX {p0:(List Aa)} {p1:Aa->Option Bool} {c1:D} (hf1:∀ a0 r,p1 a0=some r->∃ F cs,qBW c1=some (F,cs)/\RetD TP F ([a0.enc]++cs) (.bool (r))) {r:Int} (hm:bN p0 p1=some r):RetN TP 41 [.sl 4 (p0.map Aa.enc),c1] (.int .i64 r):=by
 refine .unit (aP (aX Q) func41 Q ntmps41 Q Q (λwX gX=>?_)) Q;unfold bN at hm;refine WN [0,1] Q Q (cP 4 Q (bS hm (λ_=>[]) (λ_=>[]) [] [] Q (λz1 hm hz1=>?_) (λj hm=>?_)))
 ·refine aS 2 Q (SX Q Q (aU TK Q Q Q) (aK 4 Q (bP hm (λx3=>([(8,.d (.int .i64 x3))])) (λx3=>[]) [8] [0,1,7] [] Q k0 Q Q Q Q Q (λx3 z4 hm hz4=>WN [0,1,7,8] Q Q (cP 5 Q (bV hm Q (λh5 hm=>?_) (λh5 hm=>?_)))))))
  ·refine aN 13 Q (VE hm λe6 he6 hm=>SX Q Q (fM TK Q Q Q Q he6) (aI 1 Q (BE hm λr7 hr7 hm=>?_)));obtain⟨Fr7,csr7,hFr7,hcr7⟩:=hf1 _ _ hr7;refine SX Q Q (qEA Q Q hFr7 Q hcr7) (aK 2 Q (cF hm Q (λh8 hm=>?_) (λh8 hm=>?_)))
   ·refine aJ 8 Q (IE hm λv9 hm hz=>?_);rw [hz4 _ hz] at hm;refine WR (bI 1 Q (IE hm λv10 hm hz=>?_));rw [hz1 _ hz] at hm;exact WR (aW hm Q)
   exact aN 4 Q (GE hm λg11 hm=>SX Q Q (cI Q Q Q Q g11) (aF 2 Q (cQ [] hm Q Q)))
  refine aJ 2 Q (IE hm λv12 hm hz=>?_);rw [hz4 _ hz] at hm;exact WX (bI 1 Q (cQ [] hm Q Q))
 exact WN [] Q Q (aJ 5 Q (aW hm Q))
theorem qT {p0:(List Aa)} {p1:Machine} {r:Int} (hm:fD p0 p1=some r):RetN TP 26 [.sl 4 (p0.map Aa.enc),p1.enc] (.int .i64 r):=by
 refine .unit (aP (aX Q) func26 Q ntmps26 Q Q (λwX gX=>?_)) Q;unfold fD at hm;exact WN [0,1] Q Q (aS 1 Q (eB 0 Q Q Q (aK 3 Q (qAO 0 Q Q Q Q Q (aN 3 Q (BE hm λr1 hr1 hm=>SX Q Q (RN Q Q (mZ Q) (fX (λ_ r h=>⟨42,_,Q,(nM h).retD⟩) hr1)) (aF 4 Q (aW hm Q))))))))
theorem eN {s0:(List BA)} {s1:Int} {s2:(List Ae)} {s3:(List (List Bool))} {s4:Int} {s5:List Ad} {s6:List (BA×Bool)}:Ret TP 25 [.box 70 [.d (.sl 1 (s0.map D.str)),.d (.int .i64 s1),.d (.sl 6 (s2.map Ae.enc)),.d (.sl 1 (s3.map (λ(l:List Bool)=>D.sl 1 (l.map D.bool)))),.d (.int .i64 s4),.msl 1 6 0 s5.length,.mmap 2],.flat 66 6 (s5.map Ad.enc),.map 9 4 (aO D.str D.bool s6)] (λ_=>false) [.mptr 0 0 0 0] (.fnc 38 [.mptr 3 0 0 0]) [.box 70 [.d (.sl 1 (s0.map D.str)),.d (.int .i64 s1),.d (.sl 6 (s2.map Ae.enc)),.d (.sl 1 (s3.map (λ(l:List Bool)=>D.sl 1 (l.map D.bool)))),.d (.int .i64 s4),.msl 1 6 0 s5.length,.mmap 2],.flat 66 6 (s5.map Ad.enc),.map 9 4 (aO D.str D.bool s6),.box 58 [.mptr 0 0 0 0]]:=by
 refine cC (aX Q) func25 Q ntmps25 Q Q (λwX gX=>WN [0] Q Q (aS 1 Q (eB 3 Q Q Q (aI 4 Q (SX Q Q (vZ Q) (aF 4 Q ?_))))));exact⟨_,[0,1,2,3],res Q,by decide,kB Q,Q,Q⟩
theorem jN {p0:Ah} {p1:Int} {r:(List Int)} (hm:bL p0 p1=some r):Ret TP 27 [.box 70 [.d (.sl 1 (p0.p.names.map D.str)),.d (.int .i64 p0.p.inputs),.d (.sl 6 (p0.p.Ac.map Ae.enc)),.d (.sl 1 (p0.inputs.map (λ(l:List Bool)=>D.sl 1 (l.map D.bool)))),.d (.int .i64 p0.depth),.msl 1 6 0 p0.visits.length,.mmap 2],.flat 66 6 (p0.visits.map Ad.enc),.map 9 4 (aO D.str D.bool p0.seen)] (λ_=>false) [.mptr 0 0 0 0,.d (.int .i64 p1)] (.d (.sl 1 (r.map (D.int .i64)))) [.box 70 [.d (.sl 1 (p0.p.names.map D.str)),.d (.int .i64 p0.p.inputs),.d (.sl 6 (p0.p.Ac.map Ae.enc)),.d (.sl 1 (p0.inputs.map (λ(l:List Bool)=>D.sl 1 (l.map D.bool)))),.d (.int .i64 p0.depth),.msl 1 6 0 p0.visits.length,.mmap 2],.flat 66 6 (p0.visits.map Ad.enc),.map 9 4 (aO D.str D.bool p0.seen)]:=by
 refine cC (aX Q) func27 Q ntmps27 Q Q (λwX gX=>?_);unfold bL at hm;refine WN [0,1] Q Q (aS 5 Q (iH (f:=(D.int .i64)) 3 3 1 Q Q Q (aK 2 Q (bF hm (λb1=>([(5,.msl 3 1 0 b1.length)])) (λb1=>([(3,.flat 3 1 (b1.map (D.int .i64)))])) [5] [] Q (λz2 hm=>?_) (λb1 hm=>?_)))))
 ·refine cP 1 Q (bP hm (λ(at6,b7)=>([(1,.d (.int .i64 at6)),(5,.msl 3 1 0 b7.length)])) (λ(at6,b7)=>([(3,.flat 3 1 (b7.map (D.int .i64)))])) [1,5] [0] [0,1,2,3] Q (kB Q) Q Q Q Q Q (λs z8 hm hz8=>?_));obtain⟨at6,b7⟩:=s;refine WN [0,1,5] Q Q (aS 7 Q (VE hm λe9 he9 hm=>SX Q Q (eZ TK Q Q Q Q he9 Q) (aI 1 Q (SX Q Q (lU TK Q Q Q Q he9.2 Q) (aK 3 Q (bV hm Q (λh10 hm=>?_) (λh10 hm=>?_)))))))
  ·refine aN 10 Q (VE hm λe11 he11 hm=>SX Q Q (eZ TK Q Q Q Q he11 Q) (aI 1 Q (SX Q Q (lU TK Q Q Q Q he11.2 Q) (SX Q Q (gK [.tmp 23] TK Q Q iO Q Q Q Q Q) (GE hm λg12 hm=>?_)))));refine nA (f:=(D.int .i64)) ([e11.input]:List Int) TK Q Q iO Q Q Q Q Q (λh=>absurd (show 3 < 3 from h) (by decide)) Q mY g12 Q Q ?_;exact aK 3 Q (WN [0,1,5] Q Q (aN 6 Q (VE hm λe13 he13 hm=>SX Q Q (eZ TK Q Q Q Q he13 Q) (aI 1 Q (SX Q Q (lU TK Q Q Q Q he13.2 Q) (aF 3 Q (e_l [0,1,2,3] hm Q (kB Q) Q)))))))
  refine aJ 2 Q (IE hm λv14 hm hz=>?_);rw [hz8 _ hz] at hm;exact WX (bI 1 Q (e_j [0,1,2,3] hm Q (kB Q) Q))
 refine WN [5] Q Q (aN 2 Q (GE hm λg15 hm=>?_));refine qHB [3] Q Q Q (by simp) Q Q Q (kF b1 g15) Q Q ?_;refine fK 5 (vU b1).length Q (kJ _).symm (fK 34 (vU b1).length Q (kJ _).symm (aK 7 Q ?_));refine qFU 4 3 [] Q Q Q Q Q (by simp) Q Q ?_;refine aJ 1 Q ?_;obtain rfl:=OJ hm;exact⟨_,[0,1,2],res Q,by decide,(kB Q),Q,Q⟩
theorem dD {p0:Ah} {p1:Machine} {p2:Int} {p3:Int} {p4:Int} {r:Ah} (hm:aY p0 p1 p2 p3 p4=some r):Ret TP 39 [.box 70 [.d (.sl 1 (p0.p.names.map D.str)),.d (.int .i64 p0.p.inputs),.d (.sl 6 (p0.p.Ac.map Ae.enc)),.d (.sl 1 (p0.inputs.map (λ(l:List Bool)=>D.sl 1 (l.map D.bool)))),.d (.int .i64 p0.depth),.msl 1 6 0 p0.visits.length,.mmap 2],.flat 66 6 (p0.visits.map Ad.enc),.map 9 4 (aO D.str D.bool p0.seen)] (λj=>Nat.beq j 1) [.mptr 0 0 0 0,.d (p1.enc),.d (.int .i64 p2),.d (.int .i64 p3),.d (.int .i64 p4)] (.tup []) [.box 70 [.d (.sl 1 (p0.p.names.map D.str)),.d (.int .i64 p0.p.inputs),.d (.sl 6 (p0.p.Ac.map Ae.enc)),.d (.sl 1 (p0.inputs.map (λ(l:List Bool)=>D.sl 1 (l.map D.bool)))),.d (.int .i64 p0.depth),.msl 1 6 0 r.visits.length,.mmap 2],.flat 66 6 (r.visits.map Ad.enc),.map 9 4 (aO D.str D.bool r.seen)]:=by
 refine cC (aX Q) func39 Q ntmps39 Q Q (λwX gX=>?_);unfold aY at hm;refine WN [0,1,2,3,4] Q Q (aS 1 Q (eB 3 Q Q Q (aK 2 Q (bK follows ?_))));iterate 5 (refine DA [0,1,2,3] TK Q ?_)
 refine qCF [0,1,2,3] hm (iK ·) Q Q Q Q λr1 hm=>?_;refine DT ?_ (by kernel_rfl);refine GE hm λg2 hm=>s_putE rC D.bool qES Q Q Q Q g2 (aK 2 Q (lA follows ?_));iterate 9 (refine DA [0,1,2,3] TK Q ?_)
 refine DX [0,1,2,3] Q Q (cG Q plc66 nV Q Q Q Q) (DX [0,1,2,3] Q Q (gK [.tmp 25] TK Q Q nV Q Q Q Q Q) ?_);refine qIE 0 16 ?_ ?_ Q (by kernel_rfl) (by kernel_rfl) (by kernel_rfl)
 ·refine GE hm λg3 hm=>nA (f:=Ad.enc) ([(⟨p1,p2,p3,p4⟩:Ad)]:List Ad) TK Q Q nV Q Q Q Q Q (λ_=>Q) Q mY g3 Q Q (aF 4 Q ?_);obtain rfl:=OJ hm;exact⟨_,[0,1,2],res Q,by decide,(kB Q),Q,Q⟩
 refine GE hm λg4 hm=>nA (f:=Ad.enc) ([(⟨p1,p2,p3,p4⟩:Ad)]:List Ad) TK Q Q nV Q Q Q Q Q (λ_=>Q) Q mY g4 Q Q (aF 5 Q ?_);obtain rfl:=OJ hm;exact⟨_,[0,1,2],res Q,by decide,(kB Q),Q,Q⟩
theorem gE {s0:(List Aa)} {s1:(List Int)} {s2:Bool} {s3:Int} {s4:(List BA)} {s5:Int} {s6:(List Ae)} {s7:(List (List Bool))} {s8:Int} {s9:List (BA×Bool)} {s10:List Ad} {u0:(List Aa)} {u1:(List Int)} {u2:Bool} {u3:Int} {u4:(List BA)} {u5:Int} {u6:(List Ae)} {u7:(List (List Bool))} {u8:Int} {u9:List (BA×Bool)} {u10:List Ad} {i0:Int} {i1:Int} {b:Bool} (hm:bJ s0 s1 s2 s3 s4 s5 s6 s7 s8 s9 s10 i0 i1=some (b,u0,u1,u2,u3,u4,u5,u6,u7,u8,u9,u10)):qCP TP [.lp .ready none (gH Tryd.f10).1 (gH Tryd.f10).2.1 (gH Tryd.f10).2.2 46 [(5,.mptr 1 0 0 0),(8,.mptr 2 0 0 0),(9,.mptr 3 0 0 0),(10,.mptr 4 0 0 0),(11,.mptr 7 0 0 0),(26,.fnc 38 [.mptr 9 0 0 0])],.box 26 [.d (.sl 4 (s0.map Aa.enc))],.box 30 [.d (.sl 1 (s1.map (D.int .i64)))],.box 4 [.d (.bool (s2))],.box 31 [.d (.int .i64 s3)],.box 70 [.d (.sl 1 (s4.map D.str)),.d (.int .i64 s5),.d (.sl 6 (s6.map Ae.enc)),.d (.sl 1 (s7.map (λ(l:List Bool)=>D.sl 1 (l.map D.bool)))),.d (.int .i64 s8),.msl 8 6 0 s10.length,.mmap 6],.map 9 4 (aO D.str D.bool s9),.box 58 [.mptr 5 0 0 0],.flat 66 6 (s10.map Ad.enc),.box 58 [.mptr 5 0 0 0]] (λ_=>false) [.d (.int .i64 i0),.d (.int .i64 i1)] (.d (.bool b)) [mD b (gH Tryd.f10).1 (gH Tryd.f10).2.1 (gH Tryd.f10).2.2 46 [(5,.mptr 1 0 0 0),(8,.mptr 2 0 0 0),(9,.mptr 3 0 0 0),(10,.mptr 4 0 0 0),(11,.mptr 7 0 0 0),(26,.fnc 38 [.mptr 9 0 0 0])],.box 26 [.d (.sl 4 (u0.map Aa.enc))],.box 30 [.d (.sl 1 (u1.map (D.int .i64)))],.box 4 [.d (.bool (u2))],.box 31 [.d (.int .i64 u3)],.box 70 [.d (.sl 1 (u4.map D.str)),.d (.int .i64 u5),.d (.sl 6 (u6.map Ae.enc)),.d (.sl 1 (u7.map (λ(l:List Bool)=>D.sl 1 (l.map D.bool)))),.d (.int .i64 u8),.msl 8 6 0 u10.length,.mmap 6],.map 9 4 (aO D.str D.bool u9),.box 58 [.mptr 5 0 0 0],.flat 66 6 (u10.map Ad.enc),.box 58 [.mptr 5 0 0 0]]:=by
 refine sO Q Q Q Q (λwX gX lX=>?_);unfold bJ at hm;refine mF (dZ Q (aF 2 Q (WT (dZ Q (aF 2 Q ?_)))));refine⟨Q,Q,?_⟩;refine zX (mF (mF (dZ Q (aF 3 Q (WT (qJF hm Q (λh1 hm=>?_) (λh1 hm=>?_)))))))
 ·refine mF (dZ Q (aI 2 Q (eX 2 [some 1] Q Q (aF 3 Q (WT (wP (WR (WB ?_))))))));cases hm;exact vC [0,1,2,3,4,5,6,7,8,9] (.inr ⟨Q,Q⟩) Q (kB Q) Q Q
 refine yL (WT (mF (qHZ follows Q ?_)));iterate 6 (refine DA [0,1,2,3,4,5,6,7,8,9] TK Q ?_)
 refine VE hm λe2 he2 hm=>DX [0,1,2,3,4,5,6,7,8,9] Q Q (eZ TK Q Q Q Q he2 Q) (DA [0,1,2,3,4,5,6,7,8,9] TK Q (DX [0,1,2,3,4,5,6,7,8,9] Q Q (lU TK Q Q Q Q he2.2 Q) (qCF [0,1,2,3,4,5,6,7,8,9] hm (qT ·) Q Q Q Q λr3 hm=>DA [0,1,2,3,4,5,6,7,8,9] TK Q ?_)));refine DT ?_ (by kernel_rfl);refine aF 1 Q (WT (i_if hm Q (λh4 hm=>?_) (λh4 hm=>?_)))
 ·refine mF (dZ Q (aI 2 Q (BE hm λr5 hr5 hm=>?_)));refine SX Q Q (qDY [5,8,6] ⟨Q,Q,λ_=>Q⟩ Q Q Q (by decide) Q (yY Q) Q Q (jN hr5)) ?_;refine aF 4 Q (WT (wP (WB ?_)));cases hm;exact vC [0,1,2,3,4,5,6,7,8,9] (.inr ⟨Q,Q⟩) Q (kB Q) Q Q
 refine yL (WK ?_);cases hm;exact vC [0,1,2,3,4,5,6,7,8,9] (.inl ⟨Q,Q⟩) Q (kB Q) Q Q
theorem gL {ps:Array Tmp} {asg body:Code} {n:Nat} {Y:((List Aa))->((List Int))->Bool->Int->((List BA))->Int->((List Ae))->((List (List Bool)))->Int->(List (BA×Bool))->(List Ad)->Int->Int->Option (Bool×((List Aa))×((List Int))×Bool×Int×((List BA))×Int×((List Ae))×((List (List Bool)))×Int×(List (BA×Bool))×(List Ad))} (hY:∀ {s0:(List Aa)} {s1:(List Int)} {s2:Bool} {s3:Int} {s4:(List BA)} {s5:Int} {s6:(List Ae)} {s7:(List (List Bool))} {s8:Int} {s9:List (BA×Bool)} {s10:List Ad} {u0:(List Aa)} {u1:(List Int)} {u2:Bool} {u3:Int} {u4:(List BA)} {u5:Int} {u6:(List Ae)} {u7:(List (List Bool))} {u8:Int} {u9:List (BA×Bool)} {u10:List Ad} {i0:Int} {i1:Int} {b:Bool},Y s0 s1 s2 s3 s4 s5 s6 s7 s8 s9 s10 i0 i1=some (b,u0,u1,u2,u3,u4,u5,u6,u7,u8,u9,u10)->qCP TP [.lp .ready none ps asg body n [(5,.mptr 1 0 0 0),(8,.mptr 2 0 0 0),(9,.mptr 3 0 0 0),(10,.mptr 4 0 0 0),(11,.mptr 7 0 0 0),(26,.fnc 38 [.mptr 9 0 0 0])],.box 26 [.d (.sl 4 (s0.map Aa.enc))],.box 30 [.d (.sl 1 (s1.map (D.int .i64)))],.box 4 [.d (.bool (s2))],.box 31 [.d (.int .i64 s3)],.box 70 [.d (.sl 1 (s4.map D.str)),.d (.int .i64 s5),.d (.sl 6 (s6.map Ae.enc)),.d (.sl 1 (s7.map (λ(l:List Bool)=>D.sl 1 (l.map D.bool)))),.d (.int .i64 s8),.msl 8 6 0 s10.length,.mmap 6],.map 9 4 (aO D.str D.bool s9),.box 58 [.mptr 5 0 0 0],.flat 66 6 (s10.map Ad.enc),.box 58 [.mptr 5 0 0 0]] (λ_=>false) [.d (.int .i64 i0),.d (.int .i64 i1)] (.d (.bool b)) [mD b ps asg body n [(5,.mptr 1 0 0 0),(8,.mptr 2 0 0 0),(9,.mptr 3 0 0 0),(10,.mptr 4 0 0 0),(11,.mptr 7 0 0 0),(26,.fnc 38 [.mptr 9 0 0 0])],.box 26 [.d (.sl 4 (u0.map Aa.enc))],.box 30 [.d (.sl 1 (u1.map (D.int .i64)))],.box 4 [.d (.bool (u2))],.box 31 [.d (.int .i64 u3)],.box 70 [.d (.sl 1 (u4.map D.str)),.d (.int .i64 u5),.d (.sl 6 (u6.map Ae.enc)),.d (.sl 1 (u7.map (λ(l:List Bool)=>D.sl 1 (l.map D.bool)))),.d (.int .i64 u8),.msl 8 6 0 u10.length,.mmap 6],.map 9 4 (aO D.str D.bool u9),.box 58 [.mptr 5 0 0 0],.flat 66 6 (u10.map Ad.enc),.box 58 [.mptr 5 0 0 0]]) {s0:(List Aa)} {s1:(List Int)} {s2:Bool} {s3:Int} {s4:(List BA)} {s5:Int} {s6:(List Ae)} {s7:(List (List Bool))} {s8:Int} {s9:List (BA×Bool)} {s10:List Ad} {u0:(List Aa)} {u1:(List Int)} {u2:Bool} {u3:Int} {u4:(List BA)} {u5:Int} {u6:(List Ae)} {u7:(List (List Bool))} {u8:Int} {u9:List (BA×Bool)} {u10:List Ad} {b:Bool} (hm:dE Y s0 s1 s2 s3 s4 s5 s6 s7 s8 s9 s10=some (b,u0,u1,u2,u3,u4,u5,u6,u7,u8,u9,u10)):Ret TP 38 [.lp .ready none ps asg body n [(5,.mptr 1 0 0 0),(8,.mptr 2 0 0 0),(9,.mptr 3 0 0 0),(10,.mptr 4 0 0 0),(11,.mptr 7 0 0 0),(26,.fnc 38 [.mptr 9 0 0 0])],.box 26 [.d (.sl 4 (s0.map Aa.enc))],.box 30 [.d (.sl 1 (s1.map (D.int .i64)))],.box 4 [.d (.bool (s2))],.box 31 [.d (.int .i64 s3)],.box 70 [.d (.sl 1 (s4.map D.str)),.d (.int .i64 s5),.d (.sl 6 (s6.map Ae.enc)),.d (.sl 1 (s7.map (λ(l:List Bool)=>D.sl 1 (l.map D.bool)))),.d (.int .i64 s8),.msl 8 6 0 s10.length,.mmap 6],.map 9 4 (aO D.str D.bool s9),.box 58 [.mptr 5 0 0 0],.flat 66 6 (s10.map Ad.enc),.box 58 [.mptr 5 0 0 0]] (λj=>Nat.beq j 8) [.yld 0,.mptr 9 0 0 0] (.tup []) [mD b ps asg body n [(5,.mptr 1 0 0 0),(8,.mptr 2 0 0 0),(9,.mptr 3 0 0 0),(10,.mptr 4 0 0 0),(11,.mptr 7 0 0 0),(26,.fnc 38 [.mptr 9 0 0 0])],.box 26 [.d (.sl 4 (u0.map Aa.enc))],.box 30 [.d (.sl 1 (u1.map (D.int .i64)))],.box 4 [.d (.bool (u2))],.box 31 [.d (.int .i64 u3)],.box 70 [.d (.sl 1 (u4.map D.str)),.d (.int .i64 u5),.d (.sl 6 (u6.map Ae.enc)),.d (.sl 1 (u7.map (λ(l:List Bool)=>D.sl 1 (l.map D.bool)))),.d (.int .i64 u8),.msl 8 6 0 u10.length,.mmap 6],.map 9 4 (aO D.str D.bool u9),.box 58 [.mptr 5 0 0 0],.flat 66 6 (u10.map Ad.enc),.box 58 [.mptr 5 0 0 0]]:=by
 refine cC (aX Q) func38 Q ntmps38 Q Q (λwX gX=>?_);unfold dE at hm;refine WN [0,1] Q Q (aS 5 Q (c_D hm (kN ·) Q Q Q Q λr1 hm=>eQ 10 Q Q dO Q (eX 10 [some 1,some 1,none] Q Q (aK 3 Q (WN [0,1,3] Q Q (aN 3 Q (BE hm λr2 hr2 hm=>?_)))))));refine eK [5,8,6] (λj=>Nat.beq j 1) Q Q Q (by decide) Q Q Q Q (dD hr2) Q Q Q ?_;refine aK 2 Q (WN [0,1] Q Q (bD 1 Q (oP (fG 1 Q Q Q (aF 2 Q ?_)))));obtain⟨⟨b14,u3,u4,u5,u6,u7,u8,u9,u10,u11,u12,u13⟩,hr15,hm⟩:=BI hm;refine lJ 0 [0,1,2,3,4,5,6,7,8,9] (λ_=>false) Q Q Q Q (by decide) Q Q Q Q (hY hr15) Q Q Q ?_;cases b14
 ·replace hm:=JB Q hm;refine fG 1 Q Q Q (aF 2 Q (gI (pF 1 Q (WN [0,1,19] Q Q ?_))));refine TC true Q (λ_=>?_) (λh=>by cases h);refine aJ 2 Q ?_;cases hm;exact⟨_,[0,1,2,3,4,5,6,7,8,9],res Q,by decide,kB Q,Q,Q⟩
 replace hm:=JA Q hm;refine fG 1 Q Q Q (aF 2 Q (gI (pF 1 Q (WN [0,1,19] Q Q (TC false Q (λh=>by cases h) (λ_=>bD 7 Q (bP hm (λ(at29,c30,c31,c32,c33,c34,c35,c36,c37,c38,b39,b40)=>([(4,.d (.int .i64 at29))])) (λ(at29,c30,c31,c32,c33,c34,c35,c36,c37,c38,b39,b40)=>([(1,.box 26 [.d (.sl 4 (c30.map Aa.enc))]),(2,.box 30 [.d (.sl 1 (c31.map (D.int .i64)))]),(3,.box 4 [.d (.bool (c32))]),(4,.box 31 [.d (.int .i64 c33)]),(5,.box 70 [.d (.sl 1 (c34.map D.str)),.d (.int .i64 c35),.d (.sl 6 (c36.map Ae.enc)),.d (.sl 1 (c37.map (λ(l:List Bool)=>D.sl 1 (l.map D.bool)))),.d (.int .i64 c38),.msl 8 6 0 b40.length,.mmap 6]),(6,.map 9 4 (aO D.str D.bool b39)),(8,.flat 66 6 (b40.map Ad.enc))])) [4] [0,1] [0,1,2,3,4,5,6,7,8,9] Q (kB Q) Q Q Q Q Q (λs z41 hm hz41=>?_))))))));obtain⟨at29,c30,c31,c32,c33,c34,c35,c36,c37,c38,b39,b40⟩:=s;refine WN [0,1,4] Q Q (cP 11 Q (bV hm Q (λh42 hm=>?_) (λh42 hm=>?_)))
 ·refine bD 2 Q (bS hm (λ(c43,c44,c45,c46,c47,c48,c49,c50,c51,m52,b53)=>[]) (λ(c43,c44,c45,c46,c47,c48,c49,c50,c51,m52,b53)=>([(1,.box 26 [.d (.sl 4 (c43.map Aa.enc))]),(2,.box 30 [.d (.sl 1 (c44.map (D.int .i64)))]),(3,.box 4 [.d (.bool (c45))]),(4,.box 31 [.d (.int .i64 c46)]),(5,.box 70 [.d (.sl 1 (c47.map D.str)),.d (.int .i64 c48),.d (.sl 6 (c49.map Ae.enc)),.d (.sl 1 (c50.map (λ(l:List Bool)=>D.sl 1 (l.map D.bool)))),.d (.int .i64 c51),.msl 8 6 0 b53.length,.mmap 6]),(6,.map 9 4 (aO D.str D.bool m52)),(8,.flat 66 6 (b53.map Ad.enc))])) [] [0,1,4] Q (λz54 hm hz54=>?_) (λj hm=>?_))
  ·refine aS 7 Q (VE hm λe55 he55 hm=>SX Q Q (eZ TK Q Q Q Q he55 Q) (SX Q Q (lU TK Q Q Q Q he55.2 Q) (eQ 10 Q Q nV Q (eX 10 [some 1,some 1,none,none,none,none] Q Q (aK 3 Q (WN [0,1,4,5] Q Q (bD 1 Q (bK follows ?_))))))));iterate 7 (refine DA [0,1,2,3,4,5,6,7,8,9,10] TK Q ?_)
   refine DT ?_ (by kernel_rfl);refine aK 2 Q (bV hm Q (λh56 hm=>?_) (λh56 hm=>?_))
   ·refine aJ 3 Q (IE hm λv57 hm hz=>?_);rw [hz54 _ hz] at hm;refine WR (IE hm λv58 hm hz=>?_);rw [hz41 _ hz] at hm;refine WR (bI 1 Q ?_);cases hm;exact⟨_,[0,1,2,3,4,5,6,7,8,9],res Q,by decide,kB Q,Q,Q⟩
   refine aN 7 Q (SX Q Q (aU TK Q Q Q) (aK 3 Q (WN [0,1,4,5,46,47,48] Q Q (bD 1 Q (bP hm (λ(x72,c73,c74,c75,c76,c77,c78,c79,c80,c81,b82,b83)=>([(48,.d (.int .i64 x72))])) (λ(x72,c73,c74,c75,c76,c77,c78,c79,c80,c81,b82,b83)=>([(1,.box 26 [.d (.sl 4 (c73.map Aa.enc))]),(2,.box 30 [.d (.sl 1 (c74.map (D.int .i64)))]),(3,.box 4 [.d (.bool (c75))]),(4,.box 31 [.d (.int .i64 c76)]),(5,.box 70 [.d (.sl 1 (c77.map D.str)),.d (.int .i64 c78),.d (.sl 6 (c79.map Ae.enc)),.d (.sl 1 (c80.map (λ(l:List Bool)=>D.sl 1 (l.map D.bool)))),.d (.int .i64 c81),.msl 8 6 0 b83.length,.mmap 6]),(6,.map 9 4 (aO D.str D.bool b82)),(8,.flat 66 6 (b83.map Ad.enc))])) [48] [0,1,4,5,46,47] [0,1,2,3,4,5,6,7,8,9,10] Q (kB Q) Q Q Q Q Q (λs z84 hm hz84=>?_))))));obtain⟨x72,c73,c74,c75,c76,c77,c78,c79,c80,c81,b82,b83⟩:=s;refine WN [0,1,4,5,46,47,48] Q Q (cP 5 Q (bV hm Q (λh85 hm=>?_) (λh85 hm=>?_)))
   ·refine aN 6 Q (VE hm λe86 he86 hm=>SX Q Q (fM TK Q Q Q Q he86) (aK 5 Q (gS (bK follows (DA [9] TK Q ?_)))));iterate 2 (refine DA [] TK Q ?_)
    refine DA [5] TK Q (DA [] TK Q (DA [10] TK Q (DA [] TK Q (qIL [] hm (mK ·) Q Q Q Q λr87 hm=>yS [11] _ (.mptr 11 0 0 0) Q (jR Q) Q (tL Q Q dO Q Q) ?_))));refine DT ?_ (by kernel_rfl);refine aK 3 Q (WN [0,1,4,5,6,8,46,47,48] Q Q (bD 1 Q (bK follows ?_)));iterate 5 (refine DA [0,1,2,3,4,5,6,7,8,9,10,11] TK Q ?_)
    refine qCF [0,1,2,3,4,5,6,7,8,9,10,11] hm (iK ·) Q Q Q Q λr88 hm=>GE hm λg89 hm=>DX [0,1,2,3,4,5,6,7,8,9,10,11] Q Q (zE rC D.bool _ _ false Q qES kD Q Q Q Q g89) ?_;refine DT ?_ (by kernel_rfl);refine aK 2 Q (cF hm Q (λh90 hm=>?_) (λh90 hm=>?_))
    ·exact bD 4 Q (WN [0,1,4,5,46,47,48] Q Q (aN 1 Q (GE hm λg91 hm=>SX Q Q (cI Q Q Q Q g91) (aF 2 Q (e_l [0,1,2,3,4,5,6,7,8,9,10] hm Q (kB Q) Q)))))
    refine bD 12 Q (WN [0,1,4,5,6,8,46,47,48,73] Q Q (bV hm Q (λh92 hm=>?_) (λh92 hm=>?_)))
    ·refine oP (fG 1 Q Q Q (aF 2 Q ?_));obtain⟨⟨b104,u93,u94,u95,u96,u97,u98,u99,u100,u101,u102,u103⟩,hr105,hm⟩:=BI hm;refine lJ 0 [0,1,2,3,4,5,6,7,8,9] (λ_=>false) Q Q Q Q (by decide) Q Q Q Q (hY hr105) Q Q Q ?_;cases b104
     ·replace hm:=JB Q hm;refine gI (pF 1 Q (WN [] Q Q (aJ 4 Q (IE hm λv106 hm hz=>?_))));rw [hz84 _ hz] at hm;refine WR (bI 2 Q (IE hm λv107 hm hz=>?_));rw [hz54 _ hz] at hm;refine WR (IE hm λv108 hm hz=>?_);rw [hz41 _ hz] at hm;refine WR (bI 1 Q ?_);cases hm;exact⟨_,[0,1,2,3,4,5,6,7,8,9],res Q,by decide,kB Q,Q,Q⟩
     replace hm:=JA Q hm;refine gI (pF 1 Q (WN [] Q Q (aJ 4 Q (IE hm λv109 hm hz=>?_))));rw [hz84 _ hz] at hm;refine WR (bI 2 Q (IE hm λv110 hm hz=>?_));rw [hz54 _ hz] at hm;refine WR (IE hm λv111 hm hz=>?_);rw [hz41 _ hz] at hm;refine WR (bI 1 Q ?_);cases hm;exact⟨_,[0,1,2,3,4,5,6,7,8,9],res Q,by decide,kB Q,Q,Q⟩
    refine aN 9 Q (GE hm λg112 hm=>SX Q Q (cI Q Q Q Q g112) (BE hm λr113 hr113 hm=>?_));refine eK [5,8,6] (λj=>Nat.beq j 1) Q Q Q (by decide) Q Q Q Q (dD hr113) Q Q Q ?_;refine aK 2 Q (WN [0,1,4,5,46,47,48] Q Q (oP (fG 7 Q Q Q (aI 6 Q (GE hm λg114 hm=>SX Q Q (cI Q Q Q Q g114) (aF 1 Q ?_))))));obtain⟨⟨b126,u115,u116,u117,u118,u119,u120,u121,u122,u123,u124,u125⟩,hr127,hm⟩:=BI hm;refine lJ 0 [0,1,2,3,4,5,6,7,8,9] (λ_=>false) Q Q Q Q (by decide) Q Q Q Q (hY hr127) Q Q Q ?_;cases b126
    ·replace hm:=JB Q hm;refine fG 1 Q Q Q (aF 2 Q (gI (pF 1 Q (WN [0,1,4,5,46,47,48,92] Q Q ?_))));refine TC true Q (λ_=>?_) (λh=>by cases h);refine aJ 3 Q (IE hm λv128 hm hz=>?_);rw [hz84 _ hz] at hm;refine WR (bI 2 Q (IE hm λv129 hm hz=>?_));rw [hz54 _ hz] at hm;refine WR (IE hm λv130 hm hz=>?_);rw [hz41 _ hz] at hm;refine WR (bI 1 Q ?_);cases hm;exact⟨_,[0,1,2,3,4,5,6,7,8,9],res Q,by decide,kB Q,Q,Q⟩
    replace hm:=JA Q hm;exact fG 1 Q Q Q (aF 2 Q (gI (pF 1 Q (WN [0,1,4,5,46,47,48,92] Q Q (TC false Q (λh=>by cases h) (λ_=>aN 4 Q (GE hm λg131 hm=>SX Q Q (cI Q Q Q Q g131) (aF 2 Q (e_l [0,1,2,3,4,5,6,7,8,9,10] hm Q (kB Q) Q)))))))))
   refine aJ 2 Q (IE hm λv132 hm hz=>?_);rw [hz84 _ hz] at hm;exact WX (bI 2 Q (e_l [0,1,2,3,4,5,6,7,8,9] hm Q (kB Q) Q))
  obtain⟨c43,c44,c45,c46,c47,c48,c49,c50,c51,m52,b53⟩:=j;exact WN [0,1,4] Q Q (aN 2 Q (GE hm λg133 hm=>SX Q Q (cI Q Q Q Q g133) (aF 2 Q (e_l [0,1,2,3,4,5,6,7,8,9] hm Q (kB Q) Q))))
 refine aJ 2 Q (IE hm λv134 hm hz=>?_);rw [hz41 _ hz] at hm;refine WX (bI 1 Q ?_);cases hm;exact⟨_,[0,1,2,3,4,5,6,7,8,9],res Q,by decide,kB Q,Q,Q⟩
theorem rK {p0:Program} {p1:(List Aa)} {p2:(List (List Bool))} {p3:Int} {r0:(List Int)} {r1:Bool} {r2:Int} (hm:cL p0 p1 p2 p3=some (r0,r1,r2)):Ret TP 10 [] (λ_=>false) ([p0.enc,.sl 4 (p1.map Aa.enc),.sl 1 (p2.map (λ(l:List Bool)=>D.sl 1 (l.map D.bool))),.int .i64 p3].map .d) (.tup ([.sl 1 (r0.map (D.int .i64)),.bool (r1),.int .i64 r2].map .d)) []:=by
 refine qM (aX Q) func10 Q ntmps10 Q Q (λwX gX=>?_);unfold cL at hm;refine gJ [0,1,2,3] Q Q (pA (aS 1 Q (eB 0 Q Q Q (eB 1 Q Q Q (eQ 2 Q Q zero30 Q (eX 2 [some 1] Q Q (eQ 3 Q Q kD Q (eQ 4 Q Q qCT Q (aF 1 Q (gJ [2,3,4,5,8,9,10] Q Q (pA (aS 4 Q ?_))))))))))));obtain⟨⟨o1,r2⟩,hr2,hm⟩:=BI hm
 cases o1 with
 | none=>
  dsimp only at hm;refine lC Q Q Q (jV hr2) Q Q (qI 19 (.tup [.d .nilptr,.d (.int .i64 r2)]) Q Q (aI 3 Q (eQ 5 Q Q qCS Q (aF 3 Q (gJ [5,8,9,10,11,12] Q Q (pA (cP 5 Q (iG hm Q (λh4 hm=>?_) (λh4 hm=>?_)))))))))
  ·refine aN 3 Q (eX 2 [some 1] Q Q (aK 4 Q (WN [8,9,10] Q Q (aJ 1 Q (WR ?_)))));obtain⟨rfl,hmj0⟩:=Prod.mk.inj (Option.some.inj hm);obtain⟨rfl,rfl⟩:=Prod.mk.inj (hmj0);exact⟨_,.mk _ (.cons (.one (TK.lay Q) Q Q Q) (.cons (.one (TK.lay Q) Q Q Q) (.cons (.one (TK.lay Q) Q Q Q) .nil))) Q,(.cons (.d _) (.refl _) (.cons (.d _) (.refl _) (.cons (.d _) (.refl _) .nil)))⟩
  refine aJ 1 Q (gJ [5,8,9,10,11] Q Q (uS (aS 2 Q ?_)));cases hm
 | some q3=>
  dsimp only at hm;refine lC Q Q Q (jU hr2) Q Q (qI 19 (.tup [.mptr 5 0 0 0,.d (.int .i64 r2)]) Q Q (aI 3 Q (eQ 7 Q Q qCS Q (aI 2 Q (jP (f:=Ad.enc) 5 5 8 66 6 Q Q Q (aF 1 Q (gJ [5,8,9,10,11,12] Q Q (pA (cP 5 Q (iG hm Q (λh5 hm=>?_) (λh5 hm=>?_)))))))))))
  ·refine aN 3 Q (eX 2 [some 1] Q Q (aK 4 Q (WN [8,9,10] Q Q (aJ 1 Q (WR ?_)))));obtain⟨rfl,hmj0⟩:=Prod.mk.inj (Option.some.inj hm);obtain⟨rfl,rfl⟩:=Prod.mk.inj (hmj0);exact⟨_,.mk _ (.cons (.one (TK.lay Q) Q Q Q) (.cons (.one (TK.lay Q) Q Q Q) (.cons (.one (TK.lay Q) Q Q Q) .nil))) Q,(.cons (.d _) (.refl _) (.cons (.d _) (.refl _) (.cons (.d _) (.refl _) .nil)))⟩
  refine aJ 1 Q (gJ [5,8,9,10,11] Q Q (uS (aS 2 Q ?_)));refine eK [5,8,6] (λ_=>false) Q Q Q (by decide) Q Q Q Q eN Q Q Q ?_;refine qI 26 (.fnc 38 [.mptr 9 0 0 0]) Q Q (aF 1 Q (qDN [5,8,9,10,11,26] Q Q ?_));obtain⟨⟨b17,u6,u7,u8,u9,u10,u11,u12,u13,u14,u15,u16⟩,hr18,hm⟩:=BI hm;cases b17
  ·replace hm:=JB Q hm;refine nQ (b:=false) [11,1,2,3,4,5,6,7,8,9] (λj=>Nat.beq j 8) Q Q Q (by decide) Q Q Q Q Q Q (gL gE hr18) Q Q Q Q (λh=>by cases h) (λ_=>?_);obtain⟨rfl,hmj0⟩:=Prod.mk.inj (Option.some.inj hm);obtain⟨rfl,rfl⟩:=Prod.mk.inj (hmj0);exact⟨_,.mk _ (.cons (.one (TK.lay Q) Q Q Q) (.cons (.one (TK.lay Q) Q Q Q) (.cons (.one (TK.lay Q) Q Q Q) .nil))) Q,(.cons (.d _) (.refl _) (.cons (.d _) (.refl _) (.cons (.d _) (.refl _) .nil)))⟩
  replace hm:=JA Q hm;refine nQ (b:=true) [11,1,2,3,4,5,6,7,8,9] (λj=>Nat.beq j 8) Q Q Q (by decide) Q Q Q Q Q Q (gL gE hr18) Q Q Q Q (λ_ wY gY dY=>?_) (λh=>by cases h);refine mF (dZ Q (aI 1 Q (eX 2 [some 1] Q Q (aF 3 Q (WT (wP ?_))))));refine⟨?_,Q⟩;obtain⟨rfl,hmj0⟩:=Prod.mk.inj (Option.some.inj hm);obtain⟨rfl,rfl⟩:=Prod.mk.inj (hmj0);exact⟨_,.mk _ (.cons (.one (TK.lay Q) Q Q Q) (.cons (.one (TK.lay Q) Q Q Q) (.cons (.one (TK.lay Q) Q Q Q) .nil))) Q,(.cons (.d _) (.refl _) (.cons (.d _) (.refl _) (.cons (.d _) (.refl _) .nil)))⟩
theorem fI {p0:Program} {p1:(List Aa)} {p2:(List (List Bool))} {p3:Int} {r0:(List Int)} {r1:Bool} {r2:Int} (hm:cL p0 p1 p2 p3=some (r0,r1,r2)):RetT TP 10 [p0.enc,.sl 4 (p1.map Aa.enc),.sl 1 (p2.map (λ(l:List Bool)=>D.sl 1 (l.map D.bool))),.int .i64 p3] [.sl 1 (r0.map (D.int .i64)),.bool (r1),.int .i64 r2]:=.of (mv:=λ_=>false) (rK hm)
theorem fL {s0:Int} {s1:Int} {s2:(List BA)} {s3:Int} {s4:(List Ae)} {s5:(List (List Bool))} {s6:Int} {s7:List (BA×Bool)} {s8:List Ad} {u0:Int} {u1:Int} {u2:(List BA)} {u3:Int} {u4:(List Ae)} {u5:(List (List Bool))} {u6:Int} {u7:List (BA×Bool)} {u8:List Ad} {i0:Int} {i1:Int} {b:Bool} (hm:eP s0 s1 s2 s3 s4 s5 s6 s7 s8 i0 i1=some (b,u0,u1,u2,u3,u4,u5,u6,u7,u8)):qCP TP [.lp .ready none (gH Tryd.f13).1 (gH Tryd.f13).2.1 (gH Tryd.f13).2.2 34 [(6,.mptr 1 0 0 0),(7,.mptr 2 0 0 0),(8,.mptr 3 0 0 0),(23,.fnc 38 [.mptr 6 0 0 0])],.box 3 [.d (.int .i64 s0)],.box 31 [.d (.int .i64 s1)],.box 70 [.d (.sl 1 (s2.map D.str)),.d (.int .i64 s3),.d (.sl 6 (s4.map Ae.enc)),.d (.sl 1 (s5.map (λ(l:List Bool)=>D.sl 1 (l.map D.bool)))),.d (.int .i64 s6),.msl 5 6 0 s8.length,.mmap 4],.map 9 4 (aO D.str D.bool s7),.flat 66 6 (s8.map Ad.enc),.box 58 [.mptr 3 0 0 0]] (λ_=>false) [.d (.int .i64 i0),.d (.int .i64 i1)] (.d (.bool b)) [mD b (gH Tryd.f13).1 (gH Tryd.f13).2.1 (gH Tryd.f13).2.2 34 [(6,.mptr 1 0 0 0),(7,.mptr 2 0 0 0),(8,.mptr 3 0 0 0),(23,.fnc 38 [.mptr 6 0 0 0])],.box 3 [.d (.int .i64 u0)],.box 31 [.d (.int .i64 u1)],.box 70 [.d (.sl 1 (u2.map D.str)),.d (.int .i64 u3),.d (.sl 6 (u4.map Ae.enc)),.d (.sl 1 (u5.map (λ(l:List Bool)=>D.sl 1 (l.map D.bool)))),.d (.int .i64 u6),.msl 5 6 0 u8.length,.mmap 4],.map 9 4 (aO D.str D.bool u7),.flat 66 6 (u8.map Ad.enc),.box 58 [.mptr 3 0 0 0]]:=by
 refine sO Q Q Q Q (λwX gX lX=>?_);unfold eP at hm;refine dZ Q (aF 2 Q ?_);refine⟨Q,Q,?_⟩;refine zX (mF (dZ Q (aF 3 Q (WT (qJF hm Q (λh1 hm=>?_) (λh1 hm=>?_))))))
 ·refine mF (dZ Q (aF 4 Q (WT (wP (WB ?_)))));cases hm;exact vC [0,1,2,3,4,5,6] (.inr ⟨Q,Q⟩) Q (kB Q) Q Q
 refine yL (WK ?_);cases hm;exact vC [0,1,2,3,4,5,6] (.inl ⟨Q,Q⟩) Q (kB Q) Q Q
theorem gF {ps:Array Tmp} {asg body:Code} {n:Nat} {Y:Int->Int->((List BA))->Int->((List Ae))->((List (List Bool)))->Int->(List (BA×Bool))->(List Ad)->Int->Int->Option (Bool×Int×Int×((List BA))×Int×((List Ae))×((List (List Bool)))×Int×(List (BA×Bool))×(List Ad))} (hY:∀ {s0:Int} {s1:Int} {s2:(List BA)} {s3:Int} {s4:(List Ae)} {s5:(List (List Bool))} {s6:Int} {s7:List (BA×Bool)} {s8:List Ad} {u0:Int} {u1:Int} {u2:(List BA)} {u3:Int} {u4:(List Ae)} {u5:(List (List Bool))} {u6:Int} {u7:List (BA×Bool)} {u8:List Ad} {i0:Int} {i1:Int} {b:Bool},Y s0 s1 s2 s3 s4 s5 s6 s7 s8 i0 i1=some (b,u0,u1,u2,u3,u4,u5,u6,u7,u8)->qCP TP [.lp .ready none ps asg body n [(6,.mptr 1 0 0 0),(7,.mptr 2 0 0 0),(8,.mptr 3 0 0 0),(23,.fnc 38 [.mptr 6 0 0 0])],.box 3 [.d (.int .i64 s0)],.box 31 [.d (.int .i64 s1)],.box 70 [.d (.sl 1 (s2.map D.str)),.d (.int .i64 s3),.d (.sl 6 (s4.map Ae.enc)),.d (.sl 1 (s5.map (λ(l:List Bool)=>D.sl 1 (l.map D.bool)))),.d (.int .i64 s6),.msl 5 6 0 s8.length,.mmap 4],.map 9 4 (aO D.str D.bool s7),.flat 66 6 (s8.map Ad.enc),.box 58 [.mptr 3 0 0 0]] (λ_=>false) [.d (.int .i64 i0),.d (.int .i64 i1)] (.d (.bool b)) [mD b ps asg body n [(6,.mptr 1 0 0 0),(7,.mptr 2 0 0 0),(8,.mptr 3 0 0 0),(23,.fnc 38 [.mptr 6 0 0 0])],.box 3 [.d (.int .i64 u0)],.box 31 [.d (.int .i64 u1)],.box 70 [.d (.sl 1 (u2.map D.str)),.d (.int .i64 u3),.d (.sl 6 (u4.map Ae.enc)),.d (.sl 1 (u5.map (λ(l:List Bool)=>D.sl 1 (l.map D.bool)))),.d (.int .i64 u6),.msl 5 6 0 u8.length,.mmap 4],.map 9 4 (aO D.str D.bool u7),.flat 66 6 (u8.map Ad.enc),.box 58 [.mptr 3 0 0 0]]) {s0:Int} {s1:Int} {s2:(List BA)} {s3:Int} {s4:(List Ae)} {s5:(List (List Bool))} {s6:Int} {s7:List (BA×Bool)} {s8:List Ad} {u0:Int} {u1:Int} {u2:(List BA)} {u3:Int} {u4:(List Ae)} {u5:(List (List Bool))} {u6:Int} {u7:List (BA×Bool)} {u8:List Ad} {b:Bool} (hm:eW Y s0 s1 s2 s3 s4 s5 s6 s7 s8=some (b,u0,u1,u2,u3,u4,u5,u6,u7,u8)):Ret TP 38 [.lp .ready none ps asg body n [(6,.mptr 1 0 0 0),(7,.mptr 2 0 0 0),(8,.mptr 3 0 0 0),(23,.fnc 38 [.mptr 6 0 0 0])],.box 3 [.d (.int .i64 s0)],.box 31 [.d (.int .i64 s1)],.box 70 [.d (.sl 1 (s2.map D.str)),.d (.int .i64 s3),.d (.sl 6 (s4.map Ae.enc)),.d (.sl 1 (s5.map (λ(l:List Bool)=>D.sl 1 (l.map D.bool)))),.d (.int .i64 s6),.msl 5 6 0 s8.length,.mmap 4],.map 9 4 (aO D.str D.bool s7),.flat 66 6 (s8.map Ad.enc),.box 58 [.mptr 3 0 0 0]] (λj=>Nat.beq j 5) [.yld 0,.mptr 6 0 0 0] (.tup []) [mD b ps asg body n [(6,.mptr 1 0 0 0),(7,.mptr 2 0 0 0),(8,.mptr 3 0 0 0),(23,.fnc 38 [.mptr 6 0 0 0])],.box 3 [.d (.int .i64 u0)],.box 31 [.d (.int .i64 u1)],.box 70 [.d (.sl 1 (u2.map D.str)),.d (.int .i64 u3),.d (.sl 6 (u4.map Ae.enc)),.d (.sl 1 (u5.map (λ(l:List Bool)=>D.sl 1 (l.map D.bool)))),.d (.int .i64 u6),.msl 5 6 0 u8.length,.mmap 4],.map 9 4 (aO D.str D.bool u7),.flat 66 6 (u8.map Ad.enc),.box 58 [.mptr 3 0 0 0]]:=by
 refine cC (aX Q) func38 Q ntmps38 Q Q (λwX gX=>?_);unfold eW at hm;refine WN [0,1] Q Q (aS 5 Q (c_D hm (kN ·) Q Q Q Q λr1 hm=>eQ 7 Q Q dO Q (eX 7 [some 1,some 1,none] Q Q (aK 3 Q (WN [0,1,3] Q Q (aN 3 Q (BE hm λr2 hr2 hm=>?_)))))));refine eK [3,5,4] (λj=>Nat.beq j 1) Q Q Q (by decide) Q Q Q Q (dD hr2) Q Q Q ?_;refine aK 2 Q (WN [0,1] Q Q (bD 1 Q (oP (fG 1 Q Q Q (aF 2 Q ?_)))));obtain⟨⟨b12,u3,u4,u5,u6,u7,u8,u9,u10,u11⟩,hr13,hm⟩:=BI hm;refine lJ 0 [0,1,2,3,4,5,6] (λ_=>false) Q Q Q Q (by decide) Q Q Q Q (hY hr13) Q Q Q ?_;cases b12
 ·replace hm:=JB Q hm;refine fG 1 Q Q Q (aF 2 Q (gI (pF 1 Q (WN [0,1,19] Q Q ?_))));refine TC true Q (λ_=>?_) (λh=>by cases h);refine aJ 2 Q ?_;cases hm;exact⟨_,[0,1,2,3,4,5,6],res Q,by decide,kB Q,Q,Q⟩
 replace hm:=JA Q hm;refine fG 1 Q Q Q (aF 2 Q (gI (pF 1 Q (WN [0,1,19] Q Q (TC false Q (λh=>by cases h) (λ_=>bD 7 Q (bP hm (λ(at25,c26,c27,c28,c29,c30,c31,c32,b33,b34)=>([(4,.d (.int .i64 at25))])) (λ(at25,c26,c27,c28,c29,c30,c31,c32,b33,b34)=>([(1,.box 3 [.d (.int .i64 c26)]),(2,.box 31 [.d (.int .i64 c27)]),(3,.box 70 [.d (.sl 1 (c28.map D.str)),.d (.int .i64 c29),.d (.sl 6 (c30.map Ae.enc)),.d (.sl 1 (c31.map (λ(l:List Bool)=>D.sl 1 (l.map D.bool)))),.d (.int .i64 c32),.msl 5 6 0 b34.length,.mmap 4]),(4,.map 9 4 (aO D.str D.bool b33)),(5,.flat 66 6 (b34.map Ad.enc))])) [4] [0,1] [0,1,2,3,4,5,6] Q (kB Q) Q Q Q Q Q (λs z35 hm hz35=>?_))))))));obtain⟨at25,c26,c27,c28,c29,c30,c31,c32,b33,b34⟩:=s;refine WN [0,1,4] Q Q (cP 11 Q (bV hm Q (λh36 hm=>?_) (λh36 hm=>?_)))
 ·refine bD 2 Q (bS hm (λ(c37,c38,c39,c40,c41,c42,c43,m44,b45)=>[]) (λ(c37,c38,c39,c40,c41,c42,c43,m44,b45)=>([(1,.box 3 [.d (.int .i64 c37)]),(2,.box 31 [.d (.int .i64 c38)]),(3,.box 70 [.d (.sl 1 (c39.map D.str)),.d (.int .i64 c40),.d (.sl 6 (c41.map Ae.enc)),.d (.sl 1 (c42.map (λ(l:List Bool)=>D.sl 1 (l.map D.bool)))),.d (.int .i64 c43),.msl 5 6 0 b45.length,.mmap 4]),(4,.map 9 4 (aO D.str D.bool m44)),(5,.flat 66 6 (b45.map Ad.enc))])) [] [0,1,4] Q (λz46 hm hz46=>?_) (λj hm=>?_))
  ·refine aS 7 Q (VE hm λe47 he47 hm=>SX Q Q (eZ TK Q Q Q Q he47 Q) (SX Q Q (lU TK Q Q Q Q he47.2 Q) (eQ 7 Q Q nV Q (eX 7 [some 1,some 1,none,none,none,none] Q Q (aK 3 Q (WN [0,1,4,5] Q Q (bD 1 Q (bK follows ?_))))))));iterate 7 (refine DA [0,1,2,3,4,5,6,7] TK Q ?_)
   refine DT ?_ (by kernel_rfl);refine aK 2 Q (bV hm Q (λh48 hm=>?_) (λh48 hm=>?_))
   ·refine aJ 3 Q (IE hm λv49 hm hz=>?_);rw [hz46 _ hz] at hm;refine WR (IE hm λv50 hm hz=>?_);rw [hz35 _ hz] at hm;refine WR (bI 1 Q ?_);cases hm;exact⟨_,[0,1,2,3,4,5,6],res Q,by decide,kB Q,Q,Q⟩
   refine aN 7 Q (SX Q Q (aU TK Q Q Q) (aK 3 Q (WN [0,1,4,5,46,47,48] Q Q (bD 1 Q (bP hm (λ(x62,c63,c64,c65,c66,c67,c68,c69,b70,b71)=>([(48,.d (.int .i64 x62))])) (λ(x62,c63,c64,c65,c66,c67,c68,c69,b70,b71)=>([(1,.box 3 [.d (.int .i64 c63)]),(2,.box 31 [.d (.int .i64 c64)]),(3,.box 70 [.d (.sl 1 (c65.map D.str)),.d (.int .i64 c66),.d (.sl 6 (c67.map Ae.enc)),.d (.sl 1 (c68.map (λ(l:List Bool)=>D.sl 1 (l.map D.bool)))),.d (.int .i64 c69),.msl 5 6 0 b71.length,.mmap 4]),(4,.map 9 4 (aO D.str D.bool b70)),(5,.flat 66 6 (b71.map Ad.enc))])) [48] [0,1,4,5,46,47] [0,1,2,3,4,5,6,7] Q (kB Q) Q Q Q Q Q (λs z72 hm hz72=>?_))))));obtain⟨x62,c63,c64,c65,c66,c67,c68,c69,b70,b71⟩:=s;refine WN [0,1,4,5,46,47,48] Q Q (cP 5 Q (bV hm Q (λh73 hm=>?_) (λh73 hm=>?_)))
   ·refine aN 6 Q (VE hm λe74 he74 hm=>SX Q Q (fM TK Q Q Q Q he74) (aK 5 Q (gS (bK follows (DA [6] TK Q ?_)))));iterate 2 (refine DA [] TK Q ?_)
    refine DA [3] TK Q (DA [] TK Q (DA [7] TK Q (DA [] TK Q (qIL [] hm (mK ·) Q Q Q Q λr75 hm=>yS [8] _ (.mptr 8 0 0 0) Q (jR Q) Q (tL Q Q dO Q Q) ?_))));refine DT ?_ (by kernel_rfl);refine aK 3 Q (WN [0,1,4,5,6,8,46,47,48] Q Q (bD 1 Q (bK follows ?_)));iterate 5 (refine DA [0,1,2,3,4,5,6,7,8] TK Q ?_)
    refine qCF [0,1,2,3,4,5,6,7,8] hm (iK ·) Q Q Q Q λr76 hm=>GE hm λg77 hm=>DX [0,1,2,3,4,5,6,7,8] Q Q (zE rC D.bool _ _ false Q qES kD Q Q Q Q g77) ?_;refine DT ?_ (by kernel_rfl);refine aK 2 Q (cF hm Q (λh78 hm=>?_) (λh78 hm=>?_))
    ·exact bD 4 Q (WN [0,1,4,5,46,47,48] Q Q (aN 1 Q (GE hm λg79 hm=>SX Q Q (cI Q Q Q Q g79) (aF 2 Q (e_l [0,1,2,3,4,5,6,7] hm Q (kB Q) Q)))))
    refine bD 12 Q (WN [0,1,4,5,6,8,46,47,48,73] Q Q (bV hm Q (λh80 hm=>?_) (λh80 hm=>?_)))
    ·refine oP (fG 1 Q Q Q (aF 2 Q ?_));obtain⟨⟨b90,u81,u82,u83,u84,u85,u86,u87,u88,u89⟩,hr91,hm⟩:=BI hm;refine lJ 0 [0,1,2,3,4,5,6] (λ_=>false) Q Q Q Q (by decide) Q Q Q Q (hY hr91) Q Q Q ?_;cases b90
     ·replace hm:=JB Q hm;refine gI (pF 1 Q (WN [] Q Q (aJ 4 Q (IE hm λv92 hm hz=>?_))));rw [hz72 _ hz] at hm;refine WR (bI 2 Q (IE hm λv93 hm hz=>?_));rw [hz46 _ hz] at hm;refine WR (IE hm λv94 hm hz=>?_);rw [hz35 _ hz] at hm;refine WR (bI 1 Q ?_);cases hm;exact⟨_,[0,1,2,3,4,5,6],res Q,by decide,kB Q,Q,Q⟩
     replace hm:=JA Q hm;refine gI (pF 1 Q (WN [] Q Q (aJ 4 Q (IE hm λv95 hm hz=>?_))));rw [hz72 _ hz] at hm;refine WR (bI 2 Q (IE hm λv96 hm hz=>?_));rw [hz46 _ hz] at hm;refine WR (IE hm λv97 hm hz=>?_);rw [hz35 _ hz] at hm;refine WR (bI 1 Q ?_);cases hm;exact⟨_,[0,1,2,3,4,5,6],res Q,by decide,kB Q,Q,Q⟩
    refine aN 9 Q (GE hm λg98 hm=>SX Q Q (cI Q Q Q Q g98) (BE hm λr99 hr99 hm=>?_));refine eK [3,5,4] (λj=>Nat.beq j 1) Q Q Q (by decide) Q Q Q Q (dD hr99) Q Q Q ?_;refine aK 2 Q (WN [0,1,4,5,46,47,48] Q Q (oP (fG 7 Q Q Q (aI 6 Q (GE hm λg100 hm=>SX Q Q (cI Q Q Q Q g100) (aF 1 Q ?_))))));obtain⟨⟨b110,u101,u102,u103,u104,u105,u106,u107,u108,u109⟩,hr111,hm⟩:=BI hm;refine lJ 0 [0,1,2,3,4,5,6] (λ_=>false) Q Q Q Q (by decide) Q Q Q Q (hY hr111) Q Q Q ?_;cases b110
    ·replace hm:=JB Q hm;refine fG 1 Q Q Q (aF 2 Q (gI (pF 1 Q (WN [0,1,4,5,46,47,48,92] Q Q ?_))));refine TC true Q (λ_=>?_) (λh=>by cases h);refine aJ 3 Q (IE hm λv112 hm hz=>?_);rw [hz72 _ hz] at hm;refine WR (bI 2 Q (IE hm λv113 hm hz=>?_));rw [hz46 _ hz] at hm;refine WR (IE hm λv114 hm hz=>?_);rw [hz35 _ hz] at hm;refine WR (bI 1 Q ?_);cases hm;exact⟨_,[0,1,2,3,4,5,6],res Q,by decide,kB Q,Q,Q⟩
    replace hm:=JA Q hm;exact fG 1 Q Q Q (aF 2 Q (gI (pF 1 Q (WN [0,1,4,5,46,47,48,92] Q Q (TC false Q (λh=>by cases h) (λ_=>aN 4 Q (GE hm λg115 hm=>SX Q Q (cI Q Q Q Q g115) (aF 2 Q (e_l [0,1,2,3,4,5,6,7] hm Q (kB Q) Q)))))))))
   refine aJ 2 Q (IE hm λv116 hm hz=>?_);rw [hz72 _ hz] at hm;exact WX (bI 2 Q (e_l [0,1,2,3,4,5,6] hm Q (kB Q) Q))
  obtain⟨c37,c38,c39,c40,c41,c42,c43,m44,b45⟩:=j;exact WN [0,1,4] Q Q (aN 2 Q (GE hm λg117 hm=>SX Q Q (cI Q Q Q Q g117) (aF 2 Q (e_l [0,1,2,3,4,5,6] hm Q (kB Q) Q))))
 refine aJ 2 Q (IE hm λv118 hm hz=>?_);rw [hz35 _ hz] at hm;refine WX (bI 1 Q ?_);cases hm;exact⟨_,[0,1,2,3,4,5,6],res Q,by decide,kB Q,Q,Q⟩
theorem pH {p0:Program} {p1:(List (List Bool))} {p2:Int} {r0:Int} {r1:Int} (hm:fU p0 p1 p2=some (r0,r1)):Ret TP 13 [] (λ_=>false) ([p0.enc,.sl 1 (p1.map (λ(l:List Bool)=>D.sl 1 (l.map D.bool))),.int .i64 p2].map .d) (.tup ([.int .i64 r0,.int .i64 r1].map .d)) []:=by
 refine qM (aX Q) func13 Q ntmps13 Q Q (λwX gX=>?_);unfold fU at hm;refine gJ [0,1,2] Q Q (pA (aS 1 Q (eB 0 Q Q Q (eQ 1 Q Q iO Q (eQ 2 Q Q qCT Q (aF 1 Q (gJ [1,2,3,6,7] Q Q (pA (aS 4 Q ?_)))))))));obtain⟨⟨o1,r2⟩,hr2,hm⟩:=BI hm
 cases o1 with
 | none=>
  dsimp only at hm;refine lC Q Q Q (jV hr2) Q Q (qI 16 (.tup [.d .nilptr,.d (.int .i64 r2)]) Q Q (aF 6 Q (gJ [6,7,8,9] Q Q (pA (cP 5 Q (iG hm Q (λh4 hm=>?_) (λh4 hm=>?_)))))))
  ·refine aJ 7 Q (WR ?_);obtain⟨rfl,rfl⟩:=Prod.mk.inj (Option.some.inj hm);exact⟨_,.mk _ (.cons (.one (TK.lay Q) Q Q Q) (.cons (.one (TK.lay Q) Q Q Q) .nil)) Q,(.cons (.d _) (.refl _) (.cons (.d _) (.refl _) .nil))⟩
  refine aJ 1 Q (gJ [6,7,8] Q Q (uS (aS 2 Q ?_)));cases hm
 | some q3=>
  dsimp only at hm;refine lC Q Q Q (jU hr2) Q Q (qI 16 (.tup [.mptr 3 0 0 0,.d (.int .i64 r2)]) Q Q (aI 5 Q (jP (f:=Ad.enc) 3 5 5 66 6 Q Q Q (aF 1 Q (gJ [6,7,8,9] Q Q (pA (cP 5 Q (iG hm Q (λh5 hm=>?_) (λh5 hm=>?_)))))))))
  ·refine bD 6 Q (WN [6,7] Q Q (aJ 1 Q (WR ?_)));obtain⟨rfl,rfl⟩:=Prod.mk.inj (Option.some.inj hm);exact⟨_,.mk _ (.cons (.one (TK.lay Q) Q Q Q) (.cons (.one (TK.lay Q) Q Q Q) .nil)) Q,(.cons (.d _) (.refl _) (.cons (.d _) (.refl _) .nil))⟩
  refine aJ 1 Q (gJ [6,7,8] Q Q (uS (aS 2 Q ?_)));refine eK [3,5,4] (λ_=>false) Q Q Q (by decide) Q Q Q Q eN Q Q Q ?_;refine qI 23 (.fnc 38 [.mptr 6 0 0 0]) Q Q (aF 1 Q (qDN [6,7,8,23] Q Q ?_));obtain⟨⟨b15,u6,u7,u8,u9,u10,u11,u12,u13,u14⟩,hr16,hm⟩:=BI hm;cases b15
  ·replace hm:=JB Q hm;refine nQ (b:=false) [8,1,2,3,4,5,6] (λj=>Nat.beq j 5) Q Q Q (by decide) Q Q Q Q Q Q (gF fL hr16) Q Q Q Q (λh=>by cases h) (λ_=>?_);obtain⟨rfl,rfl⟩:=Prod.mk.inj (Option.some.inj hm);exact⟨_,.mk _ (.cons (.one (TK.lay Q) Q Q Q) (.cons (.one (TK.lay Q) Q Q Q) .nil)) Q,(.cons (.d _) (.refl _) (.cons (.d _) (.refl _) .nil))⟩
  replace hm:=JA Q hm;refine nQ (b:=true) [8,1,2,3,4,5,6] (λj=>Nat.beq j 5) Q Q Q (by decide) Q Q Q Q Q Q (gF fL hr16) Q Q Q Q (λ_ wY gY dY=>?_) (λh=>by cases h);refine mF (dZ Q (aF 8 Q (WT (wP ?_))));refine⟨?_,Q⟩;obtain⟨rfl,rfl⟩:=Prod.mk.inj (Option.some.inj hm);exact⟨_,.mk _ (.cons (.one (TK.lay Q) Q Q Q) (.cons (.one (TK.lay Q) Q Q Q) .nil)) Q,(.cons (.d _) (.refl _) (.cons (.d _) (.refl _) .nil))⟩
theorem pI {p0:Program} {p1:(List (List Bool))} {p2:Int} {r0:Int} {r1:Int} (hm:fU p0 p1 p2=some (r0,r1)):RetT TP 13 [p0.enc,.sl 1 (p1.map (λ(l:List Bool)=>D.sl 1 (l.map D.bool))),.int .i64 p2] [.int .i64 r0,.int .i64 r1]:=.of (mv:=λ_=>false) (pH hm)
theorem iZ {p0:Program} {p1:(List (List Bool))} {p2:(List Int)} {r:Machine} (hm:dN p0 p1 p2=some r):RetD TP 16 [p0.enc,.sl 1 (p1.map (λ(l:List Bool)=>D.sl 1 (l.map D.bool))),.sl 1 (p2.map (D.int .i64))] (r.enc):=by
 refine .of (mv:=λ_=>false) (aP (aX Q) func16 Q ntmps16 Q Q (λwX gX=>?_));unfold dN at hm;refine WN [0,1,2] Q Q (aS 1 Q (eB 0 Q Q Q (eQ 1 Q Q dO Q (eX 1 [some 1,some 1,none] Q Q (aI 4 Q (c_D hm (kN ·) Q Q Q Q λr1 hm=>eQ 2 Q Q dO Q (eX 2 [some 1,some 1,none] Q Q (aK 3 Q (bF hm (λ(c2,c3,c4)=>[]) (λ(c2,c3,c4)=>([(2,.box 42 [.d (.sl 1 (c2.map D.bool)),.d (.sl 1 (c3.map (D.int .i64))),.d (.bool (c4))])])) [] [6,7] Q (λz5 hm=>?_) (λj hm=>?_))))))))))
 ·refine aS 2 Q (SX Q Q (aU TK Q Q Q) (aK 4 Q (bP hm (λ(x11,c12,c13,c14)=>([(14,.d (.int .i64 x11))])) (λ(x11,c12,c13,c14)=>([(2,.box 42 [.d (.sl 1 (c12.map D.bool)),.d (.sl 1 (c13.map (D.int .i64))),.d (.bool (c14))])])) [14] [1,3,6,7,12,13] [0,1,2] Q k0 Q Q Q Q Q (λs z15 hm hz15=>?_))));obtain⟨x11,c12,c13,c14⟩:=s;refine WN [1,3,6,7,12,13,14] Q Q (cP 5 Q (bV hm Q (λh16 hm=>?_) (λh16 hm=>?_)))
  ·refine aN 5 Q (VE hm λe17 he17 hm=>SX Q Q (fM TK Q Q Q Q he17) (aK 4 Q (lV [(25,.d (.bool (((decide ((0:Int)<=e17))&&(decide (e17 < (p1.length:Int)))))))] [25] [1,3,6,7,9,12,13,14] Q ?_ ?_)))
   ·refine aS 3 Q (SB TK Q (λq18 hq18=>?_));cases q18
    ·refine aF 6 Q ?_;exact⟨[0,1,2],Q,k0,eM (bX (bY (by first|(simp [hq18];done)|(simp only [hq18];simp))) Q) Q⟩
    refine aI 2 Q (SX Q Q (aU TK Q Q Q) (aF 3 Q ?_));exact⟨[0,1,2],Q,k0,eM (bX (bY (by first|(simp [hq18];done)|(simp only [hq18];simp))) Q) Q⟩
   refine WN [1,3,6,7,9,12,13,14,25] Q Q (cF hm Q (λh19 hm=>?_) (λh19 hm=>?_))
   ·refine lA follows ?_;iterate 4 (refine DA [0,1,2] TK Q ?_)
    refine VE hm λe20 he20 hm=>DX [0,1,2] Q Q (fM TK Q Q Q Q he20) (DA [0,1,2] TK Q (qIL [0,1,2] hm (mK ·) Q Q Q Q λr21 hm=>?_));refine DT ?_ (by kernel_rfl);exact aI 5 Q (GE hm λg22 hm=>SX Q Q (cI Q Q Q Q g22) (aF 2 Q (cQ [0,1,2] hm Q Q)))
   exact aN 4 Q (GE hm λg23 hm=>SX Q Q (cI Q Q Q Q g23) (aF 2 Q (cQ [0,1,2] hm Q Q)))
  refine aJ 2 Q (IE hm λv24 hm hz=>?_);rw [hz15 _ hz] at hm;exact WX (bI 1 Q (bR [0,1,2] hm Q Q))
 obtain⟨c2,c3,c4⟩:=j;refine WN [6,7] Q Q (aJ 6 Q ?_);obtain rfl:=OJ hm;exact EndsS.cellR _ TK Q Q Q Q Q (.d _)
theorem nD {p0:(List Int)} {p1:(List Int)} {r:Bool} (hm:fO p0 p1=some r):RetN TP 12 [.sl 1 (p0.map (D.int .i64)),.sl 1 (p1.map (D.int .i64))] (.bool (r)):=by
 refine .unit (aP (aX Q) func12 Q ntmps12 Q Q (λwX gX=>?_)) Q;unfold fO at hm;refine WN [0,1] Q Q (aS 7 Q (SX Q Q (aU TK Q Q Q) (aI 1 Q (SX Q Q (aU TK Q Q Q) (aK 3 Q (iG hm Q (λh1 hm=>?_) (λh1 hm=>?_)))))))
 ·exact aJ 6 Q (aW hm Q)
 refine bD 2 Q (bS hm (λ_=>[]) (λ_=>[]) [] [] Q (λz2 hm hz2=>?_) (λj hm=>?_))
 ·refine cP 5 Q (bP hm (λi4=>([(5,.d (.int .i64 i4))])) (λi4=>[]) [5] [0,1] [] Q k0 Q Q Q Q Q (λi4 z5 hm hz5=>WN [0,1,5] Q Q (aS 4 Q (SX Q Q (aU TK Q Q Q) (aK 3 Q (bV hm Q (λh6 hm=>?_) (λh6 hm=>?_)))))))
  ·refine bD 4 Q (bK follows ?_);iterate 2 (refine DA [] TK Q ?_)
   refine VE hm λe7 he7 hm=>DX [] Q Q (fM TK Q Q Q Q he7) ?_;iterate 3 (refine DA [] TK Q ?_)
   refine VE hm λe8 he8 hm=>DX [] Q Q (fM TK Q Q Q Q he8) ?_;iterate 2 (refine DA [] TK Q ?_)
   refine DT ?_ (by kernel_rfl);refine aK 2 Q (iG hm Q (λh9 hm=>?_) (λh9 hm=>?_))
   ·refine bD 4 Q (WN [4] Q Q (aJ 3 Q (IE hm λv10 hm hz=>?_)));rw [hz5 _ hz] at hm;refine WR (bI 1 Q (IE hm λv11 hm hz=>?_));rw [hz2 _ hz] at hm;exact WR (aW hm Q)
   exact aN 5 Q (GE hm λg12 hm=>SX Q Q (cI Q Q Q Q g12) (aF 2 Q (cQ [] hm Q Q)))
  refine aJ 2 Q (IE hm λv13 hm hz=>?_);rw [hz5 _ hz] at hm;exact WX (bI 1 Q (cQ [] hm Q Q))
 exact WN [] Q Q (aJ 5 Q (aW hm Q))
theorem tT {p0:Machine} {p1:Machine} {r:Bool} (hm:mJ p0 p1=some r):RetN TP 15 [p0.enc,p1.enc] (.bool (r)):=by
 refine .unit (aP (aX Q) func15 Q ntmps15 Q Q (λwX gX=>?_)) Q;unfold mJ at hm;refine WN [0,1] Q Q (aS 1 Q (eB 0 Q Q Q (eB 1 Q Q Q (aK 4 Q ?_))));refine lV [(29,.d (.bool (((!(((p0.halted) == (p1.halted))))||((!(decide ((p0.vars.length:Int)=(p1.vars.length:Int))))||(!(decide ((p0.counts.length:Int)=(p1.counts.length:Int)))))))))] [29] [2,3] Q ?_ ?_
 ·refine aS 6 Q (SB TK Q (λq1 hq1=>?_));cases q1
  ·refine aI 2 Q (SX Q Q (aU TK Q Q Q) (aI 2 Q (SX Q Q (aU TK Q Q Q) (aI 2 Q (SB TK Q (λq2 hq2=>?_))))));cases q2
   ·refine aI 2 Q (SX Q Q (aU TK Q Q Q) (aI 2 Q (SX Q Q (aU TK Q Q Q) (aF 3 Q ?_))));exact⟨[0,1],Q,k0,eM (bX (bY (by first|(simp [hq1,hq2];done)|(simp only [hq1,hq2];simp))) Q) Q⟩
   refine aF 9 Q ?_;exact⟨[0,1],Q,k0,eM (bX (bY (by first|(simp [hq1,hq2];done)|(simp only [hq1,hq2];simp))) Q) Q⟩
  refine aF 18 Q ?_;exact⟨[0,1],Q,k0,eM (bX (bY (by first|(simp [hq1];done)|(simp only [hq1];simp))) Q) Q⟩
 refine WN [2,3,29] Q Q (cF hm Q (λh3 hm=>?_) (λh3 hm=>?_))
 ·exact aJ 6 Q (aW hm Q)
 refine bD 2 Q (bS hm (λ_=>[]) (λ_=>[]) [] [2,3] Q (λz4 hm hz4=>?_) (λj hm=>?_))
 ·refine cP 5 Q (bP hm (λi6=>([(5,.d (.int .i64 i6))])) (λi6=>[]) [5] [2,3] [0,1] Q k0 Q Q Q Q Q (λi6 z7 hm hz7=>WN [2,3,5] Q Q (aS 5 Q (SX Q Q (aU TK Q Q Q) (aK 3 Q (bV hm Q (λh8 hm=>?_) (λh8 hm=>?_)))))))
  ·refine bD 4 Q (bK follows ?_);iterate 3 (refine DA [0,1] TK Q ?_)
   refine VE hm λe9 he9 hm=>DX [0,1] Q Q (fM TK Q Q Q Q he9) ?_;iterate 4 (refine DA [0,1] TK Q ?_)
   refine VE hm λe10 he10 hm=>DX [0,1] Q Q (fM TK Q Q Q Q he10) ?_;iterate 2 (refine DA [0,1] TK Q ?_)
   refine DT ?_ (by kernel_rfl);refine aK 2 Q (WN [2,3,5,47] Q Q (cF hm Q (λh11 hm=>?_) (λh11 hm=>?_)))
   ·refine aJ 7 Q (IE hm λv12 hm hz=>?_);rw [hz7 _ hz] at hm;refine WR (bI 1 Q (IE hm λv13 hm hz=>?_));rw [hz4 _ hz] at hm;exact WR (aW hm Q)
   exact aN 5 Q (GE hm λg14 hm=>SX Q Q (cI Q Q Q Q g14) (aF 2 Q (cQ [0,1] hm Q Q)))
  refine aJ 2 Q (IE hm λv15 hm hz=>?_);rw [hz7 _ hz] at hm;exact WX (bI 1 Q (cQ [0,1] hm Q Q))
 refine WN [2,3] Q Q (bS hm (λ_=>[]) (λ_=>[]) [] [] Q (λz16 hm hz16=>?_) (λj hm=>?_))
 ·refine cP 5 Q (bP hm (λi18=>([(6,.d (.int .i64 i18))])) (λi18=>[]) [6] [2,3] [0,1] Q k0 Q Q Q Q Q (λi18 z19 hm hz19=>WN [2,3,6] Q Q (aS 5 Q (SX Q Q (aU TK Q Q Q) (aK 3 Q (bV hm Q (λh20 hm=>?_) (λh20 hm=>?_)))))))
  ·refine bD 4 Q (bK follows ?_);iterate 3 (refine DA [0,1] TK Q ?_)
   refine VE hm λe21 he21 hm=>DX [0,1] Q Q (fM TK Q Q Q Q he21) ?_;iterate 4 (refine DA [0,1] TK Q ?_)
   refine VE hm λe22 he22 hm=>DX [0,1] Q Q (fM TK Q Q Q Q he22) ?_;iterate 2 (refine DA [0,1] TK Q ?_)
   refine DT ?_ (by kernel_rfl);refine aK 2 Q (WN [2,3,6,65] Q Q (iG hm Q (λh23 hm=>?_) (λh23 hm=>?_)))
   ·refine aJ 7 Q (IE hm λv24 hm hz=>?_);rw [hz19 _ hz] at hm;refine WR (bI 1 Q (IE hm λv25 hm hz=>?_));rw [hz16 _ hz] at hm;exact WR (aW hm Q)
   exact aN 5 Q (GE hm λg26 hm=>SX Q Q (cI Q Q Q Q g26) (aF 2 Q (cQ [0,1] hm Q Q)))
  refine aJ 2 Q (IE hm λv27 hm hz=>?_);rw [hz19 _ hz] at hm;exact WX (bI 1 Q (cQ [0,1] hm Q Q))
 exact WN [] Q Q (aJ 5 Q (aW hm Q))
theorem fT  {r:Bool} (hm:eH=some r):RetN TP 9 [] (.bool (r)):=by
 refine .unit (aP (aX Q) func9 Q ntmps9 Q Q (λwX gX=>?_)) Q;unfold eH at hm;refine WN [] Q Q (aS 5 Q (SX Q Q (gK [.const (Value.bool Bool.false)] TK Q Q kD Q Q Q Q Q) (SX Q Q (gK [.const (Value.bool Bool.true)] TK Q Q kD Q Q Q Q Q) (SX Q Q (gK [.tmp 15,.tmp 16] TK Q Q zero40 Q Q Q Q Q) (aI 4 Q (c_D hm (dM ·) Q Q Q Q λr1 hm=>c_D hm (oX ·) Q Q Q Q λr2 hm=>SX Q Q (cG Q qJA tF Q Q Q Q) (SX Q Q (gK [.tmp 20] TK Q Q tF Q Q Q Q Q) (aI 4 Q (c_D hm (dV ·) Q Q Q Q λr3 hm=>aI 2 Q (BE hm λr4 hr4 hm=>?_))))))))));obtain⟨r5,r6,r7⟩:=r4;refine SX Q Q (jE Q Q Q (fI hr4)) (aK 9 Q (WN [1,2,3,4,5] Q Q (aN 1 Q (c_D hm (dV ·) Q Q Q Q λr8 hm=>aI 2 Q (BE hm λr9 hr9 hm=>?_)))));obtain⟨r10,r11,r12⟩:=r9;refine SX Q Q (jE Q Q Q (fI hr9)) (aI 10 Q (c_D hm (dV ·) Q Q Q Q λr13 hm=>c_D hm (dM ·) Q Q Q Q λr14 hm=>c_D hm (dM ·) Q Q Q Q λr15 hm=>SX Q Q (qCW (f:=Ab.Ak) (xs:=([r14,r15]:List Ab)) [.tmp 40,.tmp 41] TK Q Q mH Q (qFL Q (oM (Ab.Ag _) (oM (Ab.Ag _) xB))) Q (sV Ab.Am) Q) (SX Q Q (cG Q qEE mH Q Q Q Q) (SX Q Q (cG Q qJA tF Q Q Q Q) (SX Q Q (gK [.tmp 44] TK Q Q tF Q Q Q Q Q) (aI 1 Q (BE hm λr16 hr16 hm=>?_)))))));obtain⟨r17,r18,r19⟩:=r16;refine SX Q Q (jE Q Q Q (fI hr16)) (aK 9 Q (WN [1,3,4,5,7,8,9,10,11] Q Q (aN 1 Q (c_D hm (dV ·) Q Q Q Q λr20 hm=>aI 1 Q (BE hm λr21 hr21 hm=>?_)))));obtain⟨r22,r23⟩:=r21;refine SX Q Q (jE Q Q Q (pI hr21)) (aI 8 Q (c_D hm (dV ·) Q Q Q Q λr24 hm=>aI 2 Q (c_D hm (iZ ·) Q Q Q Q λr25 hm=>eQ 0 Q Q dO Q (eX 0 [some 1,some 1,none] Q Q (aK 3 Q (bF hm (λx26=>([(0,.d (.bool (x26)))])) (λx26=>[]) [0] [] Q (λz27 hm=>?_) (λx26 hm=>?_)))))))
 ·refine aS 2 Q (SX Q Q (gK [.const (Value.int IntKind.i64 1),.const (Value.int IntKind.i64 1)] TK Q Q iO Q Q Q Q Q) (c_N hm (nD ·) Q Q Q Q λr28 hm=>SB TK Q (λq29 hq29=>?_)));cases q29
  ·replace hm:=JB hq29 hm;exact aF 43 Q (bR [0] hm Q Q)
  replace hm:=JA hq29 hm;refine aI 2 Q (SB TK Q (λq30 hq30=>?_));cases q30
  ·replace hm:=JB hq30 hm;exact aF 40 Q (bR [0] hm Q Q)
  replace hm:=JA hq30 hm;refine aI 3 Q (SB TK Q (λq31 hq31=>?_));cases q31
  ·replace hm:=JF hq31 hm;exact aF 36 Q (bR [0] hm Q Q)
  replace hm:=JT hq31 hm;refine aI 3 Q (SB TK Q (λq32 hq32=>?_));cases q32
  ·replace hm:=JB hq32 hm;exact aF 32 Q (bR [0] hm Q Q)
  replace hm:=JA hq32 hm;refine aI 3 Q (SB TK Q (λq33 hq33=>?_));cases q33
  ·replace hm:=JF hq33 hm;exact aF 28 Q (bR [0] hm Q Q)
  replace hm:=JT hq33 hm;refine aI 1 Q (SX Q Q (aU TK Q Q Q) (aI 2 Q (SB TK Q (λq34 hq34=>?_))));cases q34
  ·replace hm:=JF hq34 hm;exact aF 23 Q (bR [0] hm Q Q)
  replace hm:=JT hq34 hm;refine aI 2 Q (SB TK Q (λq35 hq35=>?_));cases q35
  ·replace hm:=JB hq35 hm;exact aF 20 Q (bR [0] hm Q Q)
  replace hm:=JA hq35 hm;refine aI 3 Q (SB TK Q (λq36 hq36=>?_));cases q36
  ·replace hm:=JF hq36 hm;exact aF 16 Q (bR [0] hm Q Q)
  replace hm:=JT hq36 hm;refine aI 3 Q (SB TK Q (λq37 hq37=>?_));cases q37
  ·replace hm:=JF hq37 hm;exact aF 12 Q (bR [0] hm Q Q)
  replace hm:=JT hq37 hm;refine aI 3 Q (SB TK Q (λq38 hq38=>?_));cases q38
  ·replace hm:=JF hq38 hm;exact aF 8 Q (bR [0] hm Q Q)
  replace hm:=JT hq38 hm;exact aI 1 Q (SX Q Q (gK [.const (Value.bool Bool.true),.const (Value.bool Bool.false),.const (Value.bool Bool.true)] TK Q Q kD Q Q Q Q Q) (SX Q Q (gK [.const (Value.int IntKind.i64 0),.const (Value.int IntKind.i64 2)] TK Q Q iO Q Q Q Q Q) (SX Q Q (cG Q sT dO Q Q Q Q) (c_N hm (tT ·) Q Q Q Q λr39 hm=>aF 3 Q (bR [0] hm Q Q)))))
 exact WN [0] Q Q (aJ 1 Q (aW hm Q))
theorem rX:∀ (fu:Nat) {p0:Ab} {p1:(List Bool)} {r:Bool} (hm:cJ fu p0 p1=some r),RetN TP 47 [p0.enc,.sl 1 (p1.map D.bool)] (.bool (r)):=by
 intro fu
 induction fu with
 | zero=>
  intro p0 p1 r hm;unfold cJ at hm;cases hm
 | succ fu ih=>
  intro p0 p1 r hm;refine .unit (aP (aX Q) func47 Q ntmps47 Q Q (λwX gX=>?_)) Q;unfold cJ at hm;refine WN [0,1] Q Q (aS 1 Q (eB 0 Q Q Q (aK 3 Q (bS hm (λ_=>[]) (λ_=>[]) [] [] Q (λz1 hm hz1=>?_) (λj hm=>?_)))))
  ·refine cP 11 Q (bV hm Q (λh2 hm=>?_) (λh2 hm=>?_))
   ·refine aJ 6 Q (IE hm λv3 hm hz=>?_);rw [hz1 _ hz] at hm;exact WR (aW hm Q)
   refine bD 5 Q (bV hm Q (λh4 hm=>?_) (λh4 hm=>?_))
   ·refine bF hm (λx5=>([(4,.d (.bool (x5)))])) (λx5=>[]) [4] [] Q (λz6 hm=>?_) (λx5 hm=>?_)
    ·refine aS 4 Q (SB TK Q (λq7 hq7=>?_));cases q7
     ·replace hm:=JF hq7 hm;exact aF 15 Q (bR [0] hm Q Q)
     replace hm:=JT hq7 hm;refine aI 3 Q (SX Q Q (aU TK Q Q Q) (aI 2 Q (SB TK Q (λq8 hq8=>?_))));cases q8
     ·replace hm:=JF hq8 hm;exact aF 8 Q (bR [0] hm Q Q)
     replace hm:=JT hq8 hm;exact aI 3 Q (VE hm λe9 he9 hm=>SX Q Q (fM TK Q Q Q Q he9) (aF 4 Q (bR [0] hm Q Q)))
    refine WN [4] Q Q (aJ 2 Q (IE hm λv10 hm hz=>?_));rw [hz1 _ hz] at hm;exact WR (aW hm Q)
   refine bD 5 Q (bV hm Q (λh11 hm=>?_) (λh11 hm=>?_))
   ·refine bF hm (λx12=>([(4,.d (.bool (x12)))])) (λx12=>[]) [4] [] Q (λz13 hm=>?_) (λx12 hm=>?_)
    ·refine aS 3 Q (SX Q Q (aU TK Q Q Q) (aI 1 Q (SB TK Q (λq14 hq14=>?_))));cases q14
     ·replace hm:=JF hq14 hm;exact aF 10 Q (bR [0] hm Q Q)
     replace hm:=JT hq14 hm;exact aI 2 Q (VE hm λe15 he15 hm=>SX Q Q (oR TK Q Q Q Q he15 (Ab.Ag _)) (aI 2 Q (c_N hm (ih ·) Q Q Q Q λr16 hm=>aF 4 Q (bR [0] hm Q Q))))
    refine WN [4] Q Q (aJ 2 Q (IE hm λv17 hm hz=>?_));rw [hz1 _ hz] at hm;exact WR (aW hm Q)
   refine bF hm (λx18=>([(44,.d (.bool (x18)))])) (λx18=>[]) [44] [1,2] Q (λz19 hm=>?_) (λx18 hm=>?_)
   ·refine cP 5 Q (bV hm Q (λh20 hm=>?_) (λh20 hm=>?_))
    ·exact aJ 1 Q (bR [0] hm Q Q)
    exact aJ 4 Q (bR [0] hm Q Q)
   refine WN [1,2,44] Q Q (cF hm Q (λh21 hm=>?_) (λh21 hm=>?_))
   ·refine bS hm (λ_=>[]) (λ_=>[]) [] [2] Q (λz22 hm hz22=>?_) (λj hm=>?_)
    ·refine cP 5 Q (bP hm (λi24=>([(5,.d (.int .i64 i24))])) (λi24=>[]) [5] [1,2] [0] Q k0 Q Q Q Q Q (λi24 z25 hm hz25=>WN [1,2,5] Q Q (aS 5 Q (SX Q Q (aU TK Q Q Q) (aK 3 Q (bV hm Q (λh26 hm=>?_) (λh26 hm=>?_)))))))
     ·refine bD 4 Q (bK follows ?_);iterate 3 (refine DA [0] TK Q ?_)
      refine VE hm λe27 he27 hm=>DX [0] Q Q (oR TK Q Q Q Q he27 (Ab.Ag _)) ?_;iterate 2 (refine DA [0] TK Q ?_)
      refine qCF [0] hm (ih ·) Q Q Q Q λr28 hm=>?_;iterate 4 (refine DA [0] TK Q ?_)
      refine DT ?_ (by kernel_rfl);refine aK 2 Q (WN [1,2,5,64] Q Q (cF hm Q (λh29 hm=>?_) (λh29 hm=>?_)))
      ·refine aJ 10 Q (IE hm λv30 hm hz=>?_);rw [hz25 _ hz] at hm;refine WR (bI 1 Q (IE hm λv31 hm hz=>?_));rw [hz22 _ hz] at hm;refine WR (bI 1 Q (IE hm λv32 hm hz=>?_));rw [hz1 _ hz] at hm;exact WR (aW hm Q)
      exact aN 5 Q (GE hm λg33 hm=>SX Q Q (cI Q Q Q Q g33) (aF 2 Q (cQ [0] hm Q Q)))
     refine aJ 2 Q (IE hm λv34 hm hz=>?_);rw [hz25 _ hz] at hm;exact WX (bI 1 Q (cQ [0] hm Q Q))
    refine WN [2] Q Q (aJ 9 Q (IE hm λv35 hm hz=>?_));rw [hz1 _ hz] at hm;exact WR (aW hm Q)
   exact aJ 2 Q (cQ [0] hm Q Q)
  exact WN [] Q Q (aJ 5 Q (aW hm Q))
theorem tV {p0:Ab} {p1:(List Bool)} {r:Bool} (hm:jJ p0 p1=some r):RetN TP 47 [p0.enc,.sl 1 (p1.map D.bool)] (.bool (r)):=rX aZ hm
theorem nY {p0:(List Aa)} {p1:Machine} {r:Bool} (hm:eD p0 p1=some r):RetN TP 30 [.sl 4 (p0.map Aa.enc),p1.enc] (.bool (r)):=by
 refine .unit (aP (aX Q) func30 Q ntmps30 Q Q (λwX gX=>?_)) Q;unfold eD at hm;refine WN [0,1] Q Q (aS 1 Q (eB 0 Q Q Q (aK 3 Q (bS hm (λ_=>[]) (λ_=>[]) [] [] Q (λz1 hm hz1=>?_) (λj hm=>?_)))))
 ·refine cP 5 Q (bP hm (λi3=>([(5,.d (.int .i64 i3))])) (λi3=>[]) [5] [0,3] [0] Q k0 Q Q Q Q Q (λi3 z4 hm hz4=>WN [0,3,5] Q Q (aS 4 Q (SX Q Q (aU TK Q Q Q) (aK 3 Q (bV hm Q (λh5 hm=>?_) (λh5 hm=>?_)))))))
  ·refine bD 4 Q (bK follows ?_);iterate 2 (refine DA [0] TK Q ?_)
   refine VE hm λe6 he6 hm=>DX [0] Q Q (fM TK Q Q Q Q he6) ?_;iterate 4 (refine DA [0] TK Q ?_)
   refine qCF [0] hm (tV ·) Q Q Q Q λr7 hm=>DA [0] TK Q ?_;refine DT ?_ (by kernel_rfl);refine aK 2 Q (cF hm Q (λh8 hm=>?_) (λh8 hm=>?_))
   ·refine bD 4 Q (WN [4] Q Q (aJ 3 Q (IE hm λv9 hm hz=>?_)));rw [hz4 _ hz] at hm;refine WR (bI 1 Q (IE hm λv10 hm hz=>?_));rw [hz1 _ hz] at hm;exact WR (aW hm Q)
   exact aN 5 Q (GE hm λg11 hm=>SX Q Q (cI Q Q Q Q g11) (aF 2 Q (cQ [0] hm Q Q)))
  refine aJ 2 Q (IE hm λv12 hm hz=>?_);rw [hz4 _ hz] at hm;exact WX (bI 1 Q (cQ [0] hm Q Q))
 exact WN [] Q Q (aJ 5 Q (aW hm Q))
theorem uJ {p0:(List Int)} {p1:Int} {r0:(List Int)} {r1:Bool} (hm:gZ p0 p1=some (r0,r1)):RetT TP 35 [.sl 1 (p0.map (D.int .i64)),.int .i64 p1] [.sl 1 (r0.map (D.int .i64)),.bool (r1)]:=by
 refine .of (mv:=λ_=>false) (lD (aX Q) func35 Q ntmps35 Q Q (λwX gX=>?_));unfold gZ at hm;refine WN [0,1] Q Q (aS 6 Q (xP (f:=(D.int .i64)) 0 [] ([]:List Int) TK Q Q Q iO Q Q Q Q Q (aI 1 Q (GE hm λg1 hm=>nA (f:=(D.int .i64)) p0 TK Q Q iO Q Q Q Q Q (λh=>absurd h (zQV _)) Q mY g1 Q Q (aK 3 Q (bS hm (λb2=>[]) (λb2=>([(0,.flat 3 1 (b2.map (D.int .i64)))])) [] [] Q (λz3 hm hz3=>?_) (λb2 hm=>?_)))))))
 ·refine aS 3 Q (GE hm λg4 hm=>SX Q Q (cI Q Q Q Q g4) (aK 4 Q (bP hm (λ(i8,b9)=>([(6,.msl 0 1 0 b9.length),(7,.d (.int .i64 i8))])) (λ(i8,b9)=>([(0,.flat 3 1 (b9.map (D.int .i64)))])) [6,7] [1] [0] Q k0 Q Q Q Q Q (λs z10 hm hz10=>?_))));obtain⟨i8,b9⟩:=s;refine WN [1,6,7] Q Q (cP 6 Q (bV hm Q (λh11 hm=>?_) (λh11 hm=>?_)))
  ·refine aN 8 Q (VE hm λe12 he12 hm=>SX Q Q (eZ TK Q Q Q Q he12 Q) (SX Q Q (lU TK Q Q Q Q he12.2 Q) (GE hm λg13 hm=>SX Q Q (cI Q Q Q Q g13) (aK 4 Q (bV hm Q (λh14 hm=>?_) (λh14 hm=>?_))))))
   ·refine aN 3 Q (VE hm λe15 he15 hm=>SX Q Q (eZ TK Q Q Q Q he15 Q) (SX Q Q (lU TK Q Q Q Q he15.2 Q) (GE hm λg16 hm=>SX Q Q (cI Q Q Q Q g16) (VE hm λe17 he17 hm=>SX Q Q (eZ TK Q Q Q Q he17 Q) (qH (x':=(e15+(1:Int))) TK Q Q Q Q Q he17.2 Q Q Q (fK 6 (b9.set i8.toNat (e15+(1:Int))).length Q List.length_set.symm (fK 25 (b9.set i8.toNat (e15+(1:Int))).length Q List.length_set.symm (aK 2 Q (WN [6] Q Q (aJ 10 Q ?_))))))))));refine IE hm λv18 hm hz=>?_;rw [hz10 _ hz] at hm;refine WR (bI 1 Q (IE hm λv19 hm hz=>?_));rw [hz3 _ hz] at hm;refine WR ?_;obtain⟨rfl,rfl⟩:=Prod.mk.inj (Option.some.inj hm);exact EndsT.two Q (iP Q) (.refl _) (.d _) (.refl _)
   exact aN 5 Q (VE hm λe20 he20 hm=>SX Q Q (eZ TK Q Q Q Q he20 Q) (qH (x':=(0:Int)) TK Q Q Q Q Q he20.2 Q Q Q (fK 6 (b9.set i8.toNat (0:Int)).length Q List.length_set.symm (fK 32 (b9.set i8.toNat (0:Int)).length Q List.length_set.symm (aI 5 Q (GE hm λg21 hm=>SX Q Q (cI Q Q Q Q g21) (aF 2 Q (cQ [0] hm Q Q))))))))
  refine aJ 2 Q (IE hm λv22 hm hz=>?_);rw [hz10 _ hz] at hm;exact WX (bI 1 Q (cQ [0] hm Q Q))
 refine WN [] Q Q (bD 5 Q (c_wk 4 [some 1] Q (aJ 1 Q ?_)));obtain⟨rfl,rfl⟩:=Prod.mk.inj (Option.some.inj hm);exact EndsT.two Q (.d _) (.refl _) (.d _) (.refl _)
theorem sE {p0:Program} {p1:(List Aa)} {p2:(List (List Bool))} {p3:Int} {r0:(List Int)} {r1:Bool} (hm:gB p0 p1 p2 p3=some (r0,r1)):RetT TP 18 [p0.enc,.sl 4 (p1.map Aa.enc),.sl 1 (p2.map (λ(l:List Bool)=>D.sl 1 (l.map D.bool))),.int .i64 p3] [.sl 1 (r0.map (D.int .i64)),.bool (r1)]:=by
 refine .of (mv:=λ_=>false) (lD (aX Q) func18 Q ntmps18 Q Q (λwX gX=>?_));unfold gB at hm;refine WN [0,1,2,3] Q Q (aS 1 Q (eB 0 Q Q Q (aK 5 Q (lV [(19,.d (.bool (((decide ((0:Int) < p3))&&(decide ((p2.length:Int)=(0:Int)))))))] [19] [1,2,3,4] Q ?_ ?_))))
 ·refine aS 3 Q (SB TK Q (λq1 hq1=>?_));cases q1
  ·refine aF 5 Q ?_;exact⟨[0],Q,k0,eM (bX (bY (by first|(simp [hq1];done)|(simp only [hq1];simp))) Q) Q⟩
  refine aI 1 Q (SX Q Q (aU TK Q Q Q) (aF 3 Q ?_));exact⟨[0],Q,k0,eM (bX (bY (by first|(simp [hq1];done)|(simp only [hq1];simp))) Q) Q⟩
 refine WN [1,2,3,4,19] Q Q (cF hm Q (λh2 hm=>?_) (λh2 hm=>?_))
 ·refine bD 5 Q (c_wk 8 [some 1] Q (aJ 2 Q ?_));obtain⟨rfl,rfl⟩:=Prod.mk.inj (Option.some.inj hm);exact EndsT.two Q (.d _) (.refl _) (.d _) (.refl _)
 refine aN 4 Q (GE hm λg3 hm=>SX Q Q (xI (f:=(D.int .i64)) (x:=(0:Int)) TK Q Q iO Q Q Q Q Q g3 Q) (aK 4 Q (bP hm (λtrace5=>([(10,.d (.sl 1 (trace5.map (D.int .i64))))])) (λtrace5=>[]) [10] [1,2,4] [0] Q k0 Q Q Q Q Q (λtrace5 z6 hm hz6=>WN [1,2,4,10] Q Q (aS 7 Q (c_D hm (iZ ·) Q Q Q Q λr7 hm=>c_N hm (nY ·) Q Q Q Q λr8 hm=>aK 2 Q (cF hm Q (λh9 hm=>?_) (λh9 hm=>?_))))))))
 ·refine aJ 9 Q (IE hm λv10 hm hz=>?_);rw [hz6 _ hz] at hm;refine WR (bI 1 Q ?_);obtain⟨rfl,rfl⟩:=Prod.mk.inj (Option.some.inj hm);exact EndsT.two Q (.d _) (.refl _) (.d _) (.refl _)
 refine aN 5 Q (SX Q Q (aU TK Q Q Q) (BE hm λr11 hr11 hm=>?_));obtain⟨r12,r13⟩:=r11;refine SX Q Q (jE Q Q Q (uJ hr11)) (aK 13 Q (WN [1,2,4,11,37] Q Q (cF hm Q (λh14 hm=>?_) (λh14 hm=>?_))))
 ·refine bD 5 Q (c_wk 8 [some 1] Q (aJ 3 Q (IE hm λv15 hm hz=>?_)));rw [hz6 _ hz] at hm;refine WR (bI 1 Q ?_);obtain⟨rfl,rfl⟩:=Prod.mk.inj (Option.some.inj hm);exact EndsT.two Q (.d _) (.refl _) (.d _) (.refl _)
 exact aJ 7 Q (cQ [0] hm Q Q)
theorem iW {p0:Program} {p1:(List Aa)} {p2:(List (List Bool))} {p3:Int} {r:Bool} (hm:cU p0 p1 p2 p3=some r):Ret TP 6 [] (λ_=>false) ([p0.enc,.sl 4 (p1.map Aa.enc),.sl 1 (p2.map (λ(l:List Bool)=>D.sl 1 (l.map D.bool))),.int .i64 p3].map .d) (.d (.bool (r))) []:=by
 refine aP (aX Q) func6 Q ntmps6 Q Q (λwX gX=>?_);unfold cU at hm;refine WN [0,1,2,3] Q Q (aS 1 Q (eB 0 Q Q Q (aK 4 Q (bF hm (λx1=>([(28,.d (.bool (x1)))])) (λx1=>[]) [28] [1,2,3,4] Q (λz2 hm=>?_) (λx1 hm=>?_)))))
 ·refine aS 4 Q (c_N hm (vW ·) Q Q Q Q λr3 hm=>aI 1 Q (SB TK Q (λq4 hq4=>?_)));cases q4
  ·replace hm:=JB hq4 hm;refine aI 1 Q (SX Q Q (aU TK Q Q Q) (aI 2 Q (SB TK Q (λq5 hq5=>?_))));cases q5
   ·replace hm:=JF hq5 hm;exact aF 4 Q (bR [0] hm Q Q)
   replace hm:=JT hq5 hm;exact aF 4 Q (bR [0] hm Q Q)
  replace hm:=JA hq4 hm;exact aF 9 Q (bR [0] hm Q Q)
 refine WN [1,2,3,4,28] Q Q (cF hm Q (λh6 hm=>?_) (λh6 hm=>?_))
 ·exact aN 1 Q (BE hm λr7 hr7 hm=>SX Q Q (RN Q Q SN (fT hr7)) (aF 5 Q (aW hm Q)))
 refine aN 7 Q (BE hm λr8 hr8 hm=>?_);obtain⟨r9,r10,r11⟩:=r8;refine SX Q Q (jE Q Q Q (fI hr8)) (aK 15 Q (iG hm Q (λh12 hm=>?_) (λh12 hm=>?_)))
 ·refine bF hm (λx13=>([(8,.d (.bool (x13)))])) (λx13=>[]) [8] [] Q (λz14 hm=>?_) (λx13 hm=>?_)
  ·refine aS 2 Q (SX Q Q (aU TK Q Q Q) (aI 1 Q (SB TK Q (λq15 hq15=>?_))));cases q15
   ·replace hm:=JF hq15 hm;exact aF 8 Q (bR [0] hm Q Q)
   replace hm:=JT hq15 hm;refine aI 3 Q (SB TK Q (λq16 hq16=>?_));cases q16
   ·replace hm:=JB hq16 hm;exact aF 4 Q (bR [0] hm Q Q)
   replace hm:=JA hq16 hm;exact BE hm λr17 hr17 hm=>SX Q Q (RN Q Q SN (fT hr17)) (aF 3 Q (bR [0] hm Q Q))
  exact WN [8] Q Q (aJ 2 Q (aW hm Q))
 refine bD 2 Q (bS hm (λ_=>[]) (λ_=>[]) [] [9,10] Q (λz18 hm hz18=>?_) (λj hm=>?_))
 ·refine cP 5 Q (bP hm (λn20=>([(12,.d (.int .i64 n20))])) (λn20=>[]) [12] [1,2,3,4,9,10] [0] Q k0 Q Q Q Q Q (λn20 z21 hm hz21=>WN [1,2,3,4,9,10,12] Q Q (cP 7 Q (bV hm Q (λh22 hm=>?_) (λh22 hm=>?_)))))
  ·refine aN 9 Q (BE hm λr23 hr23 hm=>?_);obtain⟨r24,r25⟩:=r23;refine SX Q Q (jE Q Q Q (sE hr23)) (aK 11 Q (cF hm Q (λh26 hm=>?_) (λh26 hm=>?_)))
   ·refine bF hm (λx27=>([(8,.d (.bool (x27)))])) (λx27=>[]) [8] [] Q (λz28 hm=>?_) (λx27 hm=>?_)
    ·refine aS 2 Q (SB TK Q (λq29 hq29=>?_));cases q29
     ·replace hm:=JB hq29 hm;exact aF 9 Q (bR [0] hm Q Q)
     replace hm:=JA hq29 hm;refine aI 2 Q (c_N hm (nD ·) Q Q Q Q λr30 hm=>aI 1 Q (SB TK Q (λq31 hq31=>?_)));cases q31
     ·replace hm:=JB hq31 hm;exact aF 4 Q (bR [0] hm Q Q)
     replace hm:=JA hq31 hm;exact BE hm λr32 hr32 hm=>SX Q Q (RN Q Q SN (fT hr32)) (aF 3 Q (bR [0] hm Q Q))
    refine WN [8] Q Q (aJ 3 Q (IE hm λv33 hm hz=>?_));rw [hz21 _ hz] at hm;refine WR (bI 1 Q (IE hm λv34 hm hz=>?_));rw [hz18 _ hz] at hm;exact WR (aW hm Q)
   exact aN 5 Q (GE hm λg35 hm=>SX Q Q (cI Q Q Q Q g35) (aF 2 Q (cQ [0] hm Q Q)))
  refine aJ 2 Q (IE hm λv36 hm hz=>?_);rw [hz21 _ hz] at hm;exact WX (bI 1 Q (cQ [0] hm Q Q))
 refine WN [9,10] Q Q (bF hm (λx37=>([(8,.d (.bool (x37)))])) (λx37=>[]) [8] [] Q (λz38 hm=>?_) (λx37 hm=>?_))
 ·refine aS 3 Q (SB TK Q (λq39 hq39=>?_));cases q39
  ·replace hm:=JB hq39 hm;exact aF 9 Q (bR [0] hm Q Q)
  replace hm:=JA hq39 hm;refine aI 1 Q (SX Q Q (aU TK Q Q Q) (aI 2 Q (SB TK Q (λq40 hq40=>?_))));cases q40
  ·replace hm:=JF hq40 hm;exact aF 4 Q (bR [0] hm Q Q)
  replace hm:=JT hq40 hm;exact BE hm λr41 hr41 hm=>SX Q Q (RN Q Q SN (fT hr41)) (aF 3 Q (bR [0] hm Q Q))
 exact WN [8] Q Q (aJ 1 Q (aW hm Q))
end Go.Proofs.YtciilodpnepdbaaDoor
set_option linter.unusedVariables false
set_option linter.unusedSimpArgs false
namespace Go.Proofs.YtciilodpnepdbaaDoor
open Go Go.TL
@[simp] theorem aB {α:Type} {p:Prop} [Decidable p] {k:Option α} (h:p):aE p k=k:=if_pos h
@[simp] theorem aA {α β:Type} (a:α) (k:α->Option β):aD (some a) k=k a:=rfl
@[simp] theorem cY {α β:Type} (a:α) (k:α->Option β):cH (some (.inl a)) k=k a:=rfl
@[simp] theorem bM {α β:Type} (b:β) (k:α->Option β):cH (some (.inr b)) k=some b:=rfl
@[simp] theorem cA {α β:Type} (b:β):(aL (some b):Option (α ⊕ β))=some (.inr b):=rfl
theorem aT {α β:Type} {l:List α} {i:Nat} {e:α} {k:α->Option β} (h:l[i]?=some e):bE l (i:Int) k=k e:=by simp [bE,h]
theorem gC {α β:Type} {l:List α} {i:Int} {e:α} {k:α->Option β} (h0:0<=i) (h:l[i.toNat]?=some e):bE l i k=k e:=by simp [bE,h0,h]
@[simp] theorem ite_bindM {α β:Type} {p:Prop} [Decidable p] (a b:α) (k:α->Option β):aD (if p then some a else some b) k=k (if p then a else b):=by split<;>rfl
variable {σ ρ:Type}
theorem wO {f:σ->Option (σ ⊕ ρ)} (B:Nat->σ) {o:ρ}:∀ (n k:Nat),(∀ i,k<=i->i < k+n->f (B i)=some (.inl (B (i+1))))->f (B (k+n))=some (.inr o)->fE f (n+1) (B k)=some o
 | 0,k,_,he=>by simp only [Nat.add_zero] at he;simp [fE,he]
 | n+1,k,hf,he=>by
  simp only [fE];rw [hf k (zQW _) (by omega)];exact wO B n (k+1) (λi h1 h2=>hf i (by omega) (by omega)) (by rw [show k+1+n=k+(n+1) by omega];exact he)
theorem jM {f:σ->Option (σ ⊕ ρ)} (B:Nat->σ) (n:Nat) {o:ρ} {s:σ} (hs:s=B 0) (hn:n<=9223372036854775807) (hf:∀ i,i < n->f (B i)=some (.inl (B (i+1)))) (he:f (B n)=some (.inr o)):bC f s=some o:=by
 subst hs;exact rA (wO B n 0 (λi _ h=>hf i (by omega)) (by rw [Nat.zero_add];exact he)) (by unfold aZ;omega)
theorem wK {f : Int -> Option (Int ⊕ ρ)} (n : Nat) (c : Nat -> Option ρ) (o : ρ) (hn : n <= 9223372036854775807) (hf : ∀ i, i < n -> f (i : Int) = match c i with
  | some r => some (.inr r)
  | none => some (.inl ((i : Int) + 1))) (he : f (n : Int) = some (.inr o)) : bC f 0 = some (((List.range n).findSome? c).getD o) := by
 cases h:(List.range n).findSome? c with
 | none=>
  rw [List.findSome?_eq_none_iff] at h;refine jM (λi=>(i:Int)) n rfl hn (λi hi=>?_) he;rw [hf i hi,h i (List.mem_range.2 hi)];rfl
 | some r=>
  rw [List.findSome?_eq_some_iff] at h;obtain⟨l1,a,l2,h1,h2,h3⟩:=h
  have ha:l1.length=a/\a < n:=by
   have hlen:l1.length < (List.range n).length:=by rw [h1];simp
   have:(List.range n)[l1.length]?=some a:=by rw [h1];simp
   simp only [List.length_range] at hlen;simp [hlen] at this;exact⟨this,by omega⟩
  obtain⟨ha1,ha2⟩:=ha;refine jM (λi=>(i:Int)) a rfl (by omega) (λi hi=>?_) ?_
  ·have hm:i∈l1:=by
    have:(List.range n)[i]?=some i:=List.getElem?_range (by omega);rw [h1,List.getElem?_append_left (by omega)] at this;exact zQM this
   rw [hf i (by omega),h3 i hm];rfl
  rw [hf a ha2,h2];rfl
theorem rI {α β:Type} (l:List α) (c:Nat->Option β) (d:α->Option β) (h:∀ (i:Nat) (e:α),l[i]?=some e->c i=d e):(List.range l.length).findSome? c=l.findSome? d:=by
 induction l generalizing c with
 | nil=>rfl
 | cons x r ih=>
  rw [List.length_cons,List.range_succ_eq_map,List.findSome?_cons,List.findSome?_map,List.findSome?_cons,h 0 x rfl]
  cases d x with
  | some b=>rfl
  | none=>exact ih (c ∘ Nat.succ) λi e he=>h (i+1) e (by simpa using he)
theorem qBN {α : Type} {f : Int -> Option (Int ⊕ ρ)} (l : List α) (d : α -> Option ρ) (o : ρ) (hn : l.length <= 9223372036854775807) (hf : ∀ (i : Nat) (e : α), l[i]? = some e -> f (i : Int) = match d e with
  | some r => some (.inr r)
  | none => some (.inl ((i : Int) + 1))) (he : f (l.length : Int) = some (.inr o)) : bC f 0 = some ((l.findSome? d).getD o) := by
 rw [wK l.length (λi=>(l[i]?).bind d) o hn (λi hi=>?_) he,rI l _ d (λi e he=>by simp [he])];rw [hf i l[i] (by simp),zQR hi];rfl
theorem nO {α β:Type} (l:List α) (c:α->Bool) (v:β):l.findSome? (λe=>if c e=true then some v else none)=if l.any c=true then some v else none:=by
 induction l with
 | nil=>rfl
 | cons x r ih=>
  rw [List.findSome?_cons,List.any_cons,ih];cases c x<;>simp
theorem gA {α:Type} {f:Int->Option (Int ⊕ ρ)} (l:List α) (c:α->Bool) (v o:ρ) (hn:l.length<=9223372036854775807) (hf:∀ (i:Nat) (e:α),l[i]?=some e->f (i:Int)=if c e=true then some (.inr v) else some (.inl ((i:Int)+1))) (he:f (l.length:Int)=some (.inr o)):bC f 0=some (if l.any c=true then v else o):=by
 rw [qBN l (λe=>if c e=true then some v else none) o hn (λi e h=>by rw [hf i e h];cases c e<;>simp) he,nO];split<;>rfl
theorem qBO {f:Int->Option (Int ⊕ ρ)} (n:Nat) (c:Nat->Bool) (v o:ρ) (hn:n<=9223372036854775807) (hf:∀ i,i < n->f (i:Int)=if c i=true then some (.inr v) else some (.inl ((i:Int)+1))) (he:f (n:Int)=some (.inr o)):bC f 0=some (if (List.range n).any c=true then v else o):=by
 rw [wK n (λe=>if c e=true then some v else none) o hn (λi h=>by rw [hf i h];cases c i<;>simp) he,nO];split<;>rfl
theorem iV {β:Type} {f:Int×β->Option ((Int×β) ⊕ ρ)} (n:Nat) (B:Nat->β) {o:ρ} {b:β} (hb:b=B 0) (hn:n<=9223372036854775807) (hf:∀ i,i < n->f ((i:Int),B i)=some (.inl ((i:Int)+1,B (i+1)))) (he:f ((n:Int),B n)=some (.inr o)):bC f (0,b)=some o:=
 jM (λi=>((i:Int),B i)) n (by rw [hb];rfl) hn (λi hi=>by rw [hf i hi];rfl) he
theorem qBP {β:Type} {f:Int×β->Option ((Int×β) ⊕ ρ)} (n:Nat) (B:Nat->β) (c:Nat->Bool) (v o:ρ) {b:β} (hb:b=B 0) (hn:n<=9223372036854775807) (hf:∀ i,i < n->(∀ j,j < i->c j=false)->f ((i:Int),B i)=if c i=true then some (.inr v) else some (.inl ((i:Int)+1,B (i+1)))) (he:(∀ j,j < n->c j=false)->f ((n:Int),B n)=some (.inr o)):bC f (0,b)=some (if (List.range n).any c=true then v else o):=by
 cases h:(List.range n).findIdx? c with
 | none=>
  rw [List.findIdx?_eq_none_iff] at h;have hall:∀ j,j < n->c j=false:=λj hj=>by simpa using h j (List.mem_range.2 hj)
  have hno:¬ (List.range n).any c=true:=by
   rw [zQU];rintro⟨j,hj,hc⟩;rw [hall j (List.mem_range.1 hj)] at hc;cases hc
  rw [if_neg hno];exact iV n B hb hn (λi hi=>by rw [hf i hi (λj hj=>hall j (by omega)),hall i hi];rfl) (he hall)
 | some k=>
  rw [List.findIdx?_eq_some_iff_getElem] at h;obtain⟨hk,h1,h2⟩:=h;simp only [List.length_range] at hk;simp only [List.getElem_range] at h1;have hb':∀ j,j < k->c j=false:=λj hj=>by have:=h2 j hj;simpa using this
  have hyes:(List.range n).any c=true:=zQU.2 ⟨k,List.mem_range.2 hk,h1⟩;rw [if_pos hyes];exact iV k B hb (by omega) (λi hi=>by rw [hf i (by omega) (λj hj=>hb' j (by omega)),hb' i hi];rfl) (by rw [hf k hk hb',h1];rfl)
theorem bO {i n:Nat} (h:i < n) (hn:n<=9223372036854775807):I64 ((i:Int)+1):=by unfold I64;omega
structure Ai where
 state:Int
 rel:Int
 timer:Int
deriving DecidableEq,Inhabited
def Ai.ok (x:Ai):Prop:=I64 x.state/\I64 x.rel/\I64 x.timer
instance (x:Ai):Decidable (Ai.ok x):=by unfold Ai.ok;infer_instance
structure Aq where
 Ap:(List Ai)
 lies:(List Int)
deriving DecidableEq,Inhabited
section chk
end chk
end Go.Proofs.YtciilodpnepdbaaDoor
set_option linter.unusedVariables false
set_option linter.unusedSimpArgs false
set_option maxHeartbeats 400000
namespace Go.Proofs.YtciilodpnepdbaaDoor
open Go Go.TL
theorem yK {n:Nat} (h:n<=reachBytes):n<=140737488351232:=h
theorem nN {α:Type} (l:List α) (P:α->Bool):(l.any λi=>!P i)=!l.all P:=by simp [List.not_all_eq_any_not]
theorem qED {α β:Type} [DecidableEq α] {fs:List (α×β)} {k:α} {v:β} (h:dJ fs k=none):qBE fs k v=fs++[(k,v)]:=by
 unfold qBE
 have:(fs.findIdx? λx=>decide (x.1=k))=none:=by
  unfold dJ at h;rw [Option.map_eq_none_iff,List.find?_eq_none] at h;rw [List.findIdx?_eq_none_iff];intro x hx;simpa using h x hx
 rw [this]
end Go.Proofs.YtciilodpnepdbaaDoor
set_option linter.unusedVariables false
set_option linter.unusedSimpArgs false
set_option maxHeartbeats 400000
set_option maxRecDepth 100000
namespace Go.Proofs.YtciilodpnepdbaaDoor
open Go Go.TL
theorem oE {α:Type} {l:List α}:l.Nodup↔∀ a c,a < c->c < l.length->l[a]?≠l[c]?:=by
 unfold List.Nodup;rw [List.pairwise_iff_getElem];constructor
 ·intro h a c hac hc he;rw [zQR hc,zQR (show a < l.length by omega)] at he;exact h a c (by omega) hc hac (Option.some.inj he)
 intro h a c ha hc hac he;refine h a c hac hc ?_;rw [zQR hc,zQR ha,he]
def opB (v:List Bool) (op x:Int) (bs:List Bool):Bool:=
 if op=3 then decide (0<=x)&&v.getD x.toNat false
 else if op=4 then (match bs with|[]=>false|b :: _=>!b)
 else if op=5 then bs.all id
 else if op=6 then bs.any id
 else decide (op=2)
mutual
def evE (v:List Bool):Ab->Bool
 | ⟨op,x,l⟩=>opB v op x (evL v l)
def evL (v:List Bool):List Ab->List Bool
 | []=>[]
 | e :: r=>evE v e :: evL v r
end
mutual
def dpE:Ab->Nat
 | ⟨_,_,l⟩=>dpL l+1
def dpL:List Ab->Nat
 | []=>0
 | e :: r=>max (dpE e) (dpL r)
end
mutual
def szE:Ab->Nat
 | ⟨_,_,l⟩=>szL l+1
def szL:List Ab->Nat
 | []=>0
 | e :: r=>szE e+szL r
end
abbrev hP:Nat:=9223372036854775807
mutual
def okE:Ab->Prop
 | ⟨_,_,l⟩=>l.length<=hP/\okL l
def okL:List Ab->Prop
 | []=>True
 | e :: r=>okE e/\okL r
end
theorem qAC (v:List Bool):∀ l,evL v l=l.map (evE v)
 | []=>by simp [evL]
 | e :: r=>by simp [evL,qAC v r]
theorem kV (v:List Bool) (e:Ab):evE v e=opB v e.op e.var (e.args.map (evE v)):=by
 cases e with
 | mk a b c=>rw [evE,qAC]
theorem dpL_le {d:Nat}:∀ {l:List Ab},dpL l<=d↔∀ e∈l,dpE e<=d
 | []=>by simp [dpL]
 | e :: r=>by rw [dpL,Nat.max_le,dpL_le (l:=r)];simp
theorem iL (e:Ab):dpE e=dpL e.args+1:=by
 cases e with
 | mk a b c=>rw [dpE]
theorem zI:∀ l:List Ab,szL l=(l.map szE).sum
 | []=>by simp [szL]
 | e :: r=>by simp [szL,zI r]
theorem nW (e:Ab):szE e=szL e.args+1:=by
 cases e with
 | mk a b c=>rw [szE]
theorem pK (a b:List Ab):szL (a++b)=szL a+szL b:=by simp [zI]
theorem zR:∀ {l:List Ab},okL l↔∀ e∈l,okE e
 | []=>by simp [okL]
 | e :: r=>by rw [okL,zR (l:=r)];simp
theorem okE_iff {e:Ab}:okE e↔e.args.length<=hP/\∀ x∈e.args,okE x:=by
 cases e with
 | mk a b c=>rw [okE,zR]
theorem sU {e:Ab} (h:Ab.Wf e):okE e:=by
 induction h with
 | mk x h0 h1 h2 g2 ih=>
  rw [okE_iff];exact⟨by have:=yK h2;unfold hP;omega,ih⟩
theorem qHO (e:Ab):gD e=some ⟨if e.op=3 then 112 else if e.op=4 then (if 0 < e.args.length then 113 else 120) else if e.op=5 then 114 else if e.op=6 then 115 else 120,e⟩:=by
 unfold gD;by_cases h3:e.op=3
 ·rw [if_pos h3,if_pos h3]
 rw [if_neg h3,if_neg h3];by_cases h4:e.op=4
 ·rw [if_pos h4,if_pos h4];by_cases h:0 < e.args.length
  ·rw [if_pos (by omega),if_pos h]
  rw [if_neg (by omega),if_neg h]
 rw [if_neg h4,if_neg h4];by_cases h5:e.op=5
 ·rw [if_pos h5,if_pos h5]
 rw [if_neg h5,if_neg h5];by_cases h6:e.op=6
 ·rw [if_pos h6,if_pos h6]
 rw [if_neg h6,if_neg h6]
theorem tB (v:List Bool):∀ (fu:Nat) (e:Ab),dpE e<=fu->okE e->cN fu e v=some (evE v e)
 | 0,e,h,_=>by rw [iL] at h;omega
 | fu+1,e,h,ho=>by
  rw [iL] at h;have hd:∀ x∈e.args,dpE x<=fu:=dpL_le.1 (by omega);obtain⟨hl,hox⟩:=okE_iff.1 ho;unfold hP at hl;have ih:∀ x∈e.args,cN fu x v=some (evE v x):=λx hx=>tB v fu x (hd x hx) (hox x hx);rw [kV];unfold cN opB;rw [qHO,aA];dsimp only;by_cases h3:e.op=3
  ·rw [if_pos h3,if_pos rfl,if_pos h3];by_cases h0:0<=e.var
   ·rw [if_pos h0,decide_eq_true h0,Bool.true_and];by_cases h1:e.var < (v.length:Int)
    ·have hx : v[e.var.toNat]? = some v[e.var.toNat] := zQR (by omega);rw [if_pos h1,gC h0 hx,aA,zQD,hx];rfl
    rw [if_neg h1, aA, zQD, List.getElem?_eq_none (by omega)];rfl
   rw [if_neg h0,decide_eq_false h0,Bool.false_and];rfl
  rw [if_neg h3,if_neg h3];by_cases h4:e.op=4
  ·rw [if_pos h4,if_pos h4];by_cases hz:0 < e.args.length
   ·rw [if_pos hz, if_neg (by decide), if_pos rfl];have hx:e.args[0]?=some e.args[0]:=zQR hz;rw [show (0:Int)=((0:Nat):Int) from rfl,aT hx,ih _ (List.getElem_mem hz),aA,cA,bM]
    cases e with
    | mk a b c=>
     cases c with
     | nil=>simp at hz
     | cons y r=>rfl
   rw [if_neg hz, if_neg (by decide), if_neg (by decide), if_neg (by decide), if_neg (by decide), cY, decide_eq_false (by omega)]
   cases e with
   | mk a b c=>
    cases c with
    | nil=>rfl
    | cons y r=>simp at hz
  rw [if_neg h4,if_neg h4];by_cases h5:e.op=5
  ·rw [if_pos h5, if_pos h5, if_neg (by decide), if_neg (by decide), if_pos rfl];rw [gA e.args (λx=>!evE v x) (.inr (.inr false)) (.inl ()) hl (λi x hx=>?_) (by rw [if_neg (by omega)];rfl)]
   ·cases ha:(e.args.map (evE v)).all id with
    | true=>
     rw [if_neg (by
      rw [zQU];rintro ⟨x, hx, hc⟩;rw [zQT] at ha;have := ha _ (List.mem_map_of_mem hx);simp only [id] at this;rw [this] at hc
      cases hc)]
     rfl
    | false=>
     rw [if_pos (by
      rw [zQU];rw [List.all_eq_false] at ha;obtain ⟨y, hy, hc⟩ := ha;obtain ⟨x, hx, rfl⟩ := List.mem_map.1 hy
      exact ⟨x, hx, by simpa using hc⟩)]
     rfl
   have hi:=(zQQ.1 hx).1;rw [if_pos (by omega),aT hx,ih x (zQM hx),aA,aB (bO hi hl)];cases evE v x<;>simp
  rw [if_neg h5,if_neg h5];by_cases h6:e.op=6
  ·rw [if_pos h6, if_pos h6, if_neg (by decide), if_neg (by decide), if_neg (by decide), if_pos rfl];rw [gA e.args (λx=>evE v x) (.inr (.inr true)) (.inl ()) hl (λi x hx=>?_) (by rw [if_neg (by omega)];rfl)]
   ·rw [List.any_map,show (id ∘ evE v)=evE v from rfl];show cH (cH (some (if e.args.any (evE v)=true then Sum.inr (Sum.inr true) else Sum.inl ())) _) _=_;cases e.args.any (evE v)
    ·rw [if_neg (by simp)];rfl
    rw [if_pos rfl];rfl
   have hi:=(zQQ.1 hx).1;rw [if_pos (by omega),aT hx,ih x (zQM hx),aA,aB (bO hi hl)];cases evE v x<;>simp
  rw [if_neg h6,if_neg h6,if_neg (by decide),if_neg (by decide),if_neg (by decide),if_neg (by decide),cY]
theorem qAS {e:Ab} (v:List Bool) (hd:dpE e<=aZ) (ho:okE e):gQ e v=some (evE v e):=by
 unfold gQ oL;rw [tB v aZ e hd ho,aA]
def kU (n:Int) (op x:Int) (k:Nat):Bool:=
 if op=1\/op=2 then decide (x=0/\k=0)
 else if op=3 then decide (0<=x/\x < n/\k=0)
 else if op=4 then decide (k=1/\x=0)
 else if op=5\/op=6 then decide (x=0)
 else false
mutual
def fH (n:Int):Ab->Bool
 | ⟨op,x,l⟩=>kU n op x l.length&&iE n l
def iE (n:Int):List Ab->Bool
 | []=>true
 | e :: r=>fH n e&&iE n r
end
theorem sZ {n:Int}:∀ {l:List Ab},iE n l=true↔∀ e∈l,fH n e=true
 | []=>by simp [iE]
 | e :: r=>by rw [iE,zQA,sZ (l:=r)];simp
theorem goodE_iff {n:Int} {e:Ab}:fH n e=true↔kU n e.op e.var e.args.length=true/\∀ x∈e.args,fH n x=true:=by
 cases e with
 | mk a b c=>rw [fH,zQA,sZ]
def hU (n:Int) (d left:Int) (e:Ab):Prop:=fH n e=true/\d+(dpE e:Int)<=13/\(szE e:Int)<=left
instance (n d left:Int) (e:Ab):Decidable (hU n d left e):=by unfold hU;infer_instance
theorem pQ {σ ρ:Type} {f:σ->Option (σ ⊕ ρ)} (P:ρ->Prop) (I:Nat->σ->Prop) {s:σ} (n:Nat) (hn:n<=hP) (h0:I 0 s) (hs:∀ i,i < n->∀ s,I i s->(∃ s',f s=some (.inl s')/\I (i+1) s')\/(∃ o,f s=some (.inr o)/\P o)) (he:∀ s,I n s->∃ o,f s=some (.inr o)/\P o):∃ o,bC f s=some o/\P o:=by
 suffices h:∀ k i s,i+k=n->I i s->∃ o,fE f (k+1) s=some o/\P o by
  obtain⟨o,h1,h2⟩:=h n 0 s (by omega) h0;exact⟨o,rA h1 (by unfold aZ hP at *; omega),h2⟩
 intro k
 induction k with
 | zero=>
  intro i s hi hI;obtain⟨o,h1,h2⟩:=he s (by rw [show n=i by omega];exact hI);exact⟨o,by simp [fE,h1],h2⟩
 | succ k ih=>
  intro i s hi hI;rcases hs i (by omega) s hI with ⟨s',h1,h2⟩|⟨o,h1,h2⟩
  ·obtain ⟨o, h3, h4⟩ := ih (i + 1) s' (by omega) h2;exact⟨o,by rw [fE,h1];exact h3,h4⟩
  exact⟨o,by rw [fE,h1],h2⟩
theorem pY (n:Int):∀ (fu:Nat) (e:Ab) (d left:Int),14<=(fu:Int)+d->0 < fu->1<=d->d<=13->0<=left->left<=1000000->okE e->∃ k,cK fu e n d left=some (decide (hU n d left e),k)/\0<=k/\k<=left/\(hU n d left e->k=left - (szE e:Int))
 | 0,e,d,left,hfu,hp,_,_,_,_,_=>by omega
 | fu+1,e,d,left,hfu,hp,hd1,hd13,h0,hm,ho=>by
  obtain⟨hl,hox⟩:=okE_iff.1 ho;have hdp:=iL e;have hsz:=nW e;have hgd:=goodE_iff (n:=n) (e:=e);unfold cK;by_cases hx:12 < d\/left=0
  ·rw [if_pos (by simpa using hx)];have hno:¬ hU n d left e:=by unfold hU;omega
   exact⟨left,by rw [decide_eq_false hno],h0,by omega,λh=>absurd h hno⟩
  rw [if_neg (by simpa using hx), aB (by unfold I64; omega)]
  have args (hform : kU n e.op e.var e.args.length = true ↔ e.var = 0) (hform2 : 0 < e.args.length -> 0 < fu) : ∃ k, (if e.var = (0 : Int) then
    cH (
     bC (fun ((x27 : Int), (c28 : Int)) =>
      if x27 < (e.args.length : Int) then
       bE e.args x27 fun e31 =>
       aE (I64 (d + (1 : Int))) <|
       aD ((cK fu) e31 n (d + (1 : Int)) c28) fun (r34, r35) =>
       if (!(r34)) = true then
        aL (
         aL (
          some (false, r35)))
       else
        aE (I64 (x27 + (1 : Int))) <|
        some (.inl ((x27 + (1 : Int)), r35))
      else
       aL (
        some (.inl c28))) ((0 : Int), (left - (1 : Int)))) fun c22 =>
    some (true, c22)
   else
    some (false, (left - (1 : Int)))) = some (decide (hU n d left e), k) /\ 0 <= k /\ k <= left /\ (hU n d left e -> k = left - (szE e : Int)) := by
   by_cases hv:e.var=0
   ·rw [if_pos hv]
    have hval:hU n d left e↔(∀ x∈e.args,fH n x=true)/\(∀ x∈e.args,d+1+(dpE x:Int)<=13)/\(szL e.args:Int)<=left - 1:=by
     unfold hU;rw [hgd,hform,hdp,hsz]
     have hdl:d+((dpL e.args+1:Nat):Int)<=13↔∀ x∈e.args,d+1+(dpE x:Int)<=13:=by
      have h1:=dpL_le (l:=e.args) (d:=(12 - d).toNat);constructor
      ·intro h x hx;have:=h1.1 (by omega) x hx;omega
      intro h;have:=h1.2 (λx hx=>by have:=h x hx;omega);omega
     rw [hdl];constructor
     ·rintro⟨⟨_,a⟩,b,c⟩;exact⟨a,b,by omega⟩
     rintro⟨a,b,c⟩;exact⟨⟨hv,a⟩,b,by omega⟩
    obtain ⟨o, ho1, ho2⟩ := pQ (f := fun ((x27 : Int), (c28 : Int)) =>
      if x27 < (e.args.length : Int) then
       bE e.args x27 fun e31 =>
       aE (I64 (d + (1 : Int))) <|
       aD ((cK fu) e31 n (d + (1 : Int)) c28) fun (r34, r35) =>
       if (!(r34)) = true then
        aL (
         aL (
          some (false, r35)))
       else
        aE (I64 (x27 + (1 : Int))) <|
        some (.inl ((x27 + (1 : Int)), r35))
      else
       aL (
        some (.inl c28))) (s := ((0 : Int), left - 1))
     (fun (o : Int ⊕ (Bool × Int)) => match o with
      | .inl c => hU n d left e /\ c = left - (szE e : Int)
      | .inr r => ¬ hU n d left e /\ r.1 = false /\ 0 <= r.2 /\ r.2 <= left)
     (fun i s => s.1 = (i : Int) /\ s.2 = left - 1 - (szL (e.args.take i) : Int) /\ 0 <= s.2 /\ ∀ x ∈ e.args.take i, hU n (d + 1) 1000000 x /\ fH n x = true /\ d + 1 + (dpE x : Int) <= 13) e.args.length hl ⟨rfl, by simp [szL], by show 0 <= left - 1; omega, by simp⟩ (fun i hi s hI => by
      obtain ⟨x27, c28⟩ := s;obtain ⟨h1, h2, h3, h4⟩ := hI;dsimp only at h1 h2 h3;subst h1;have hxi := zQR hi;have hmem := List.getElem_mem hi;dsimp only;rw [if_pos (by omega), aT hxi, aB (by unfold I64; omega)];obtain ⟨k, hk1, hk2, hk3, hk4⟩ := pY n fu e.args[i] (d + 1) c28 (by omega) (hform2 (by omega)) (by omega) (by omega) h3 (by omega) (hox _ hmem);rw [hk1, aA]
      have hsplit : szL (e.args.take (i + 1)) = szL (e.args.take i) + szE e.args[i] := by
       rw [List.take_add_one, hxi, pK];simp [szL]
      by_cases hV : hU n (d + 1) c28 e.args[i]
      ·left;rw [decide_eq_true hV, if_neg (by simp), aB (bO hi hl)];refine ⟨_, rfl, by push_cast; rfl, ?_, hk2, ?_⟩
       ·dsimp only;rw [hk4 hV, hsplit];omega
       intro x hx;rw [List.take_add_one, hxi] at hx;simp only [Option.toList_some, zQN, List.mem_singleton] at hx;rcases hx with hx | hx
       ·exact h4 x hx
       subst hx;exact ⟨⟨hV.1, hV.2.1, by have := hV.2.2; omega⟩, hV.1, hV.2.1⟩
      ·right;rw [decide_eq_false hV];simp only [Bool.not_false, if_true, cA];refine ⟨_, rfl, ?_, rfl, hk2, by omega⟩;intro hc;rw [hval] at hc;apply hV;refine ⟨hc.1 _ hmem, hc.2.1 _ hmem, ?_⟩
       have h5 : szL (e.args.take (i + 1)) <= szL e.args := by
        conv => rhs; rw [<- List.take_append_drop (i + 1) e.args, pK]
        omega
       have h6 := hc.2.2
       omega) (fun s hI => by
      obtain ⟨x27, c28⟩ := s;obtain ⟨h1, h2, h3, h4⟩ := hI;dsimp only at h1 h2 h3;subst h1;rw [List.take_length] at h2 h4;dsimp only;rw [if_neg (by omega)];refine ⟨_, rfl, ?_, by rw [hsz]; omega⟩;rw [hval]
      exact ⟨fun x hx => (h4 x hx).2.1, fun x hx => (h4 x hx).2.2, by omega⟩)
    rw [ho1]
    cases o with
    | inl c=>
     dsimp only at ho2;rw [cY];have hsz2:(szE e:Int)<=left:=ho2.1.2.2;exact⟨c,by rw [decide_eq_true ho2.1],by omega,by omega,λ_=>ho2.2⟩
    | inr r=>
     obtain⟨r1,r2⟩:=r;dsimp only at ho2;obtain⟨p1,p2,p3,p4⟩:=ho2;subst p2;rw [bM];exact⟨r2,by rw [decide_eq_false p1],p3,p4,λh=>absurd h p1⟩
   rw [if_neg hv]
   have hno:¬ hU n d left e:=by
    unfold hU;rw [hgd,hform];intro h;exact hv h.1.1
   exact⟨left - 1,by rw [decide_eq_false hno],by omega,by omega,λh=>absurd h hno⟩
  have leaf (b:Bool) (hform:kU n e.op e.var e.args.length=b) (hb:b=true->e.args.length=0):∃ k,(some (b,left - 1):Option (Bool×Int))=some (decide (hU n d left e),k)/\0<=k/\k<=left/\(hU n d left e->k=left - (szE e:Int)):=by
   cases b with
   | true=>
    have hnil:e.args=[]:=List.eq_nil_of_length_eq_zero (hb rfl);have h1:dpE e=1:=by rw [hdp,hnil];rfl
    have h2:szE e=1:=by rw [hsz,hnil];rfl
    have hyes:hU n d left e:=⟨hgd.2 ⟨hform,by rw [hnil];simp⟩,by omega,by omega⟩;exact⟨left - 1,by rw [decide_eq_true hyes],by omega,by omega,λ_=>by omega⟩
   | false=>
    have hno:¬ hU n d left e:=by
     unfold hU;rw [hgd,hform];intro h;exact absurd h.1.1 (by simp)
    exact⟨left - 1,by rw [decide_eq_false hno],by omega,by omega,λh=>absurd h hno⟩
  have hpos:0 < e.args.length->0 < fu:=by intro _;omega
  unfold kU at args leaf;by_cases h12:e.op=1\/e.op=2
  ·have e1:(if e.op=(1:Int) then some (decide (e.op=(1:Int))) else some (decide (e.op=(2:Int))))=some true:=by
    rcases h12 with h|h<;>simp [h]
   rw [e1,aA,if_pos rfl,cA,bM];refine leaf _ ?_ ?_
   ·rw [if_pos h12,Bool.eq_iff_iff];simp only [decide_eq_true_eq,zQA];omega
   simp only [zQA,decide_eq_true_eq];omega
  have e1:(if e.op=(1:Int) then some (decide (e.op=(1:Int))) else some (decide (e.op=(2:Int))))=some false:=by
   rw [if_neg (by omega),decide_eq_false (by omega)]
  rw [e1,aA,if_neg (by simp)];by_cases h3:e.op=3
  ·rw [if_pos h3,cA,bM];refine leaf _ ?_ ?_
   ·rw [if_neg h12,if_pos h3,Bool.eq_iff_iff];simp only [decide_eq_true_eq,zQA];omega
   simp only [zQA,decide_eq_true_eq];omega
  rw [if_neg h3];by_cases h4:e.op=4
  ·rw [if_pos h4];by_cases h1:e.args.length=1
   ·rw [if_pos (by omega), cY];exact args (by rw [if_neg h12,if_neg h3,if_pos h4];simp [h1]) hpos
   rw [if_neg (by omega), cA, bM];exact leaf false (by rw [if_neg h12,if_neg h3,if_pos h4,decide_eq_false (by omega)]) (by simp)
  rw [if_neg h4];by_cases h5:e.op=5
  ·rw [if_pos h5,cY];exact args (by rw [if_neg h12,if_neg h3,if_neg h4,if_pos (.inl h5)];simp) hpos
  rw [if_neg h5];by_cases h6:e.op=6
  ·rw [if_pos h6,cY];exact args (by rw [if_neg h12,if_neg h3,if_neg h4,if_pos (.inr h6)];simp) hpos
  rw [if_neg h6,cA,bM];exact leaf false (by rw [if_neg h12,if_neg h3,if_neg h4,if_neg (by omega)]) (by simp)
abbrev valB (n:Int) (e:Ab):Bool:=decide (hU n 1 20000 e)
theorem qGG (n:Int) {e:Ab} (ho:okE e):fR e n=some (valB n e):=by
 unfold fR mQ;obtain⟨k,hk,_⟩:=pY n aZ e 1 20000 (by unfold aZ;omega) (by unfold aZ;omega) (by omega) (by omega) (by omega) (by omega) ho;rw [hk,aA]
mutual
theorem tO:∀ e:Ab,szE e<=e.Ak.bulk
 | ⟨a,b,c⟩=>by
  have:=vI c;simp only [szE,Ab.Ak,D.bulk,D.bulks];omega
theorem vI:∀ l:List Ab,szL l<=D.bulks (Ab.An l)
 | []=>by simp [szL]
 | e :: r=>by
  have:=tO e;have:=vI r;simp only [szL,Ab.An,D.bulks];omega
end
mutual
theorem tC:∀ e:Ab,dpE e<=szE e
 | ⟨a,b,c⟩=>by
  have:=qFN c;simp only [szE,dpE];omega
theorem qFN:∀ l:List Ab,dpL l<=szL l
 | []=>by simp [szL,dpL]
 | e :: r=>by
  have:=tC e;have:=qFN r;simp only [szL,dpL];omega
end
theorem tN (e:Ab):1<=szE e:=by rw [nW];omega
theorem yJ:∀ l:List Ab,l.length<=szL l
 | []=>by simp [szL]
 | e :: r=>by have:=tN e;have:=yJ r;simp only [szL,List.length_cons];omega
theorem oF:∀ {l:List Ab} {x:Ab},x∈l->szE x<=szL l
 | e :: r,x,h=>by
  rcases zQB.1 h with rfl|h
  ·simp only [szL];omega
  have:=oF h;simp only [szL];omega
theorem yG {l:List Ab} {x:Ab} (h:x∈l):dpE x<=dpL l:=(dpL_le.1 (zQW _)) x h
theorem sH:∀ (fu:Nat) (e:Ab),dpE e<=fu->szE e<=1000000000->dQ fu e=some (szE e:Int)
 | 0,e,h,_=>by rw [iL] at h;omega
 | fu+1,e,h,hs=>by
  rw [iL] at h;have hse:=nW e;have hl:=yJ e.args;unfold dQ;rw [jM (s:=((1:Int),(0:Int))) (λi=>((1:Int)+(szL (e.args.take i):Int),(i:Int))) e.args.length (o:=(1:Int)+(szL e.args:Int)) rfl (by omega) ?_ ?_]
  ·rw [aA]
   congr 1
   omega
  ·intro i hi;have hm:=List.getElem_mem hi;have h1:=yG hm;have h2:=oF hm;have hq:e.args.take (i+1)=e.args.take i++[e.args[i]]:=by rw [List.take_add_one,zQR hi];rfl
   have hn:szL (e.args.take (i+1))=szL (e.args.take i)+szE e.args[i]:=by rw [hq,pK];simp [szL]
   have hle:szL (e.args.take (i+1))<=szL e.args:=by
    have:=pK (e.args.take (i+1)) (e.args.drop (i+1));rw [List.take_append_drop] at this;omega
   dsimp only;rw [if_pos (by omega),aT (zQR hi),sH fu e.args[i] (by omega) (by omega),aA,aB (by unfold I64;omega),aB (by unfold I64;omega)]
   congr 3
   omega
  dsimp only;rw [if_neg (by omega),List.take_length];rfl
theorem qGY {e:Ab} (hs:szE e<=1000000000):gW e=some (szE e:Int):=by
 unfold gW;exact sH aZ e (by have:=tC e;unfold aZ;omega) hs
theorem mI (v:List Bool):∀ (fu:Nat) (e:Ab),dpE e<=fu->szE e<=1000000000->cJ fu e v=some (evE v e)
 | 0,e,h,_=>by rw [iL] at h;omega
 | fu+1,e,h,hs=>by
  rw [iL] at h;have hse:=nW e;have hl:=yJ e.args;rw [kV];unfold cJ opB;by_cases h2:e.op=2
  ·rw [if_pos h2,cA,bM,if_neg (by omega),if_neg (by omega),if_neg (by omega),if_neg (by omega),decide_eq_true h2]
  rw [if_neg h2];by_cases h3:e.op=3
  ·rw [if_pos h3,if_pos h3];by_cases h0:0<=e.var
   ·rw [if_pos h0];by_cases hv:e.var < (v.length:Int)
    ·have hget:v[e.var.toNat]?=some (v.getD e.var.toNat false):=by
      rw [zQD,zQR (by omega)];rfl
     rw [if_pos hv,gC h0 hget,aA,cA,bM,decide_eq_true h0,Bool.true_and]
    rw [if_neg hv, aA, cA, bM, zQD, List.getElem?_eq_none (by omega)];simp
   rw [if_neg h0,aA,cA,bM,decide_eq_false h0,Bool.false_and]
  rw [if_neg h3,if_neg h3];by_cases h4:e.op=4
  ·rw [if_pos h4,if_pos h4]
   cases ha:e.args with
   | nil=>
    rw [if_neg (by simp),aA,cA,bM];rfl
   | cons x r=>
    have hm:x∈e.args:=by rw [ha];exact List.mem_cons_self ..
    have q1:=yG hm;have q2:=oF hm;rw [if_pos (by simp),gC (by omega) (by rfl),mI v fu x (by omega) (by omega),aA,aA,cA,bM];rfl
  rw [if_neg h4,if_neg h4]
  have hloop : ∀ c : Bool, bC (ρ := Unit ⊕ (Unit ⊕ Bool)) (fun i24 =>
      if i24 < (e.args.length : Int) then
       bE e.args i24 fun e27 =>
       aD ((cJ fu) e27 v) fun r28 =>
       if ((r28 == c)) = true then
        aL (
         aL (
          aL (
           some c)))
       else
        aE (I64 (i24 + (1 : Int))) <|
        some (.inl (i24 + (1 : Int)))
      else
       aL (
        some (.inl ()))) (0 : Int) = some (if (e.args.any fun x => evE v x == c) = true then .inr (.inr c) else .inl ()) := fun c => by
   refine gA (ρ:=Unit ⊕ (Unit ⊕ Bool)) e.args (λx=>evE v x == c) (Sum.inr (Sum.inr c)) (Sum.inl ()) (by omega) ?_ ?_
   ·intro i x hx;have hi:=(zQQ.1 hx).1;have hm:=zQM hx;have q1:=yG hm;have q2:=oF hm;rw [if_pos (by omega),aT hx,mI v fu x (by omega) (by omega),aA,aB (by unfold I64;omega)];cases evE v x == c<;>rfl
   rw [if_neg (by omega)];rfl
  by_cases h5:e.op=5
  ·have h6 : ¬ e.op = 6 := by omega
   rw [if_pos h5,if_pos h5,aA,decide_eq_true h5,if_pos rfl,decide_eq_false h6,hloop false]
   have:(e.args.map (evE v)).all id=!(e.args.any λx=>evE v x == false):=by
    rw [List.all_map,List.all_eq_not_any_not]
    congr 2
    funext x
    show (!(evE v x))=(evE v x == false);cases evE v x<;>rfl
   rw [this];cases (e.args.any λx=>evE v x == false)<;>rfl
  rw [if_neg h5,if_neg h5,aA];by_cases h6:e.op=6
  ·rw [if_pos h6,decide_eq_true h6,if_pos rfl,decide_eq_false h5,hloop true]
   have:(e.args.map (evE v)).any id=(e.args.any λx=>evE v x == true):=by
    rw [List.any_map]
    congr 1
    funext x
    show evE v x=(evE v x == true);cases evE v x<;>rfl
   rw [this];cases (e.args.any λx=>evE v x == true)<;>rfl
  rw [if_neg h6,decide_eq_false h6,if_neg (by simp),cY,decide_eq_false h2]
theorem qGK (v:List Bool) {e:Ab} (hs:szE e<=1000000000):jJ e v=some (evE v e):=by
 unfold jJ;exact mI v aZ e (by have:=tC e;unfold aZ;omega) hs
theorem qHN (x:Aa):szE x.expr<=x.enc.bulk:=by
 have:=tO x.expr;rw [Ab.Ag] at this;simp only [Aa.enc,Ab.enc,D.bulk,D.bulks] at *;omega
theorem wS {e:Aa} (m:Machine) (ho:okE e.expr) (hs:szE e.expr<=1000000000):dU e m=some (!(evE m.vars e.expr)):=by
 unfold dU;rw [qAS m.vars (by have:=tC e.expr;unfold aZ;omega) ho,aA]
def uM (l:List Aa) (m:Machine):Int:=if (l.findIdx λe=>!(evE m.vars e.expr)) < l.length then (l.findIdx λe=>!(evE m.vars e.expr):Nat) else -1
theorem qBY {l : List Aa} (m : Machine) (hl : l.length <= hP) (g : Aa -> Option Bool) (hg : ∀ e ∈ l, g e = some (!(evE m.vars e.expr))) : bC (ρ := Unit ⊕ Int) (fun x3 =>
   if x3 < (l.length : Int) then
    bE l x3 fun e6 =>
    aD (g e6) fun r7 =>
    if r7 = true then
     aL (
      aL (
       some x3))
    else
     aE (I64 (x3 + (1 : Int))) <|
     some (.inl (x3 + (1 : Int)))
   else
    aL (
     some (.inl ()))) (0 : Int) = some (if (l.findIdx fun e => !(evE m.vars e.expr)) < l.length then .inr (l.findIdx fun e => !(evE m.vars e.expr) : Nat) else .inl ()) := by
 obtain ⟨o, h1, h2⟩ := pQ (f := fun (x3 : Int) =>
   if x3 < (l.length : Int) then
    bE l x3 fun e6 =>
    aD (g e6) fun r7 =>
    if r7 = true then
     aL (
      aL (
       some x3))
    else
     aE (I64 (x3 + (1 : Int))) <|
     some (.inl (x3 + (1 : Int)))
   else
    aL (
     some (.inl ()))) (s := (0 : Int))
  (λ(o:Unit ⊕ Int)=>o=if (l.findIdx λe=>!(evE m.vars e.expr)) < l.length then .inr (l.findIdx λe=>!(evE m.vars e.expr):Nat) else .inl ())
  (fun i s => s = (i : Int) /\ i <= l.findIdx fun e => !(evE m.vars e.expr)) l.length hl ⟨rfl, Nat.zero_le _⟩ (fun i hi s hI => by
   obtain ⟨rfl, h2⟩ := hI;rw [if_pos (by omega), aT (zQR hi), hg _ (List.getElem_mem hi), aA]
   cases hb : !(evE m.vars l[i].expr) with
   | true =>
    right
    have hf : (l.findIdx fun e => !(evE m.vars e.expr)) = i := by
     refine Nat.le_antisymm ?_ h2;by_cases h : (l.findIdx fun e => !(evE m.vars e.expr)) <= i
     ·exact h
     exact absurd hb (by simpa using List.not_of_lt_findIdx (Nat.lt_of_not_le h))
    refine ⟨_, rfl, ?_⟩;rw [hf, if_pos hi]
   | false =>
    left;rw [if_neg (by simp), aB (bO hi hl)];refine ⟨_, rfl, by push_cast; rfl, ?_⟩;rcases Nat.lt_or_ge i (l.findIdx fun e => !(evE m.vars e.expr)) with h | h
    ·omega
    have h3 : (l.findIdx fun e => !(evE m.vars e.expr)) = i := Nat.le_antisymm h h2;have h4 : (l.findIdx fun e => !(evE m.vars e.expr)) < l.length := by omega
    have h5 := List.findIdx_getElem (w := h4);simp only [h3] at h5;rw [hb] at h5
    cases h5) (fun s hI => by
   obtain ⟨rfl, h2⟩ := hI;rw [if_neg (by omega)];refine ⟨_, rfl, ?_⟩
   rw [if_neg (by omega)])
 rw [h1,h2]
theorem qGN {l:List Aa} (m:Machine) (hl:l.length<=hP) (h:∀ e∈l,okE e.expr/\szE e.expr<=1000000000):fD l m=some (uM l m):=by
 unfold fD bN uM;rw [qBY m hl _ λe he=>wS m (h e he).1 (h e he).2];split<;>rfl
mutual
def kK (x:Int) (b:Ab):Ab->Ab
 | ⟨op,v,l⟩=>if op=3/\v=x then b else ⟨op,v,kA x b l⟩
def kA (x:Int) (b:Ab):List Ab->List Ab
 | []=>[]
 | e :: r=>kK x b e :: kA x b r
end
mutual
def yV (x:Int):Ab->Nat
 | ⟨op,v,l⟩=>(if op=3/\v=x then 1 else 0)+yU x l
def yU (x:Int):List Ab->Nat
 | []=>0
 | e :: r=>yV x e+yU x r
end
theorem qN (x:Int) (b:Ab):∀ l,kA x b l=l.map (kK x b)
 | []=>by simp [kA]
 | e :: r=>by simp [kA,qN x b r]
theorem qHG (x:Int) (b e:Ab):kK x b e=if e.op=3/\e.var=x then b else ⟨e.op,e.var,e.args.map (kK x b)⟩:=by
 cases e with
 | mk o v l=>rw [kK,qN]
mutual
theorem cnt_sz (x:Int):∀ e,yV x e<=szE e
 | ⟨o,v,l⟩=>by
  have:=qAL x l;simp only [yV,szE];split<;>omega
theorem qAL (x:Int):∀ l,yU x l<=szL l
 | []=>by simp [yU,szL]
 | e :: r=>by
  have:=cnt_sz x e;have:=qAL x r;simp only [yU,szL];omega
end
mutual
theorem rep_sz (x:Int) (b:Ab):∀ e,szE (kK x b e)<=szE e+yV x e * (szE b - 1)
 | ⟨o,v,l⟩=>by
  have h1:=zN x b l;have h2:=tN b;simp only [yV,szE,kK];split
  ·rw [Nat.add_mul];omega
  simp only [szE,Nat.zero_add];omega
theorem zN (x:Int) (b:Ab):∀ l,szL (kA x b l)<=szL l+yU x l * (szE b - 1)
 | []=>by simp [kA,szL]
 | e :: r=>by
  have h1:=rep_sz x b e;have h2:=zN x b r;simp only [yU,szL,kA];rw [Nat.add_mul];omega
end
theorem qBU {n m op x:Int} {k:Nat} (h:n<=m) (hf:kU n op x k=true):kU m op x k=true:=by
 unfold kU at *;by_cases h1:op=1\/op=2
 ·rw [if_pos h1] at *; exact hf
 rw [if_neg h1] at *;by_cases h3:op=3
 ·rw [if_pos h3] at *;simp only [decide_eq_true_eq] at *;omega
 rw [if_neg h3] at *;exact hf
mutual
theorem qDX {n m:Int} (x:Int) {b:Ab} (hnm:n<=m) (hb:fH m b=true):∀ e,fH n e=true->fH m (kK x b e)=true
 | ⟨o,v,l⟩,h=>by
  simp only [fH,zQA] at h;have h1:=sQ x hnm hb l h.2;simp only [kK];split
  ·exact hb
  simp only [fH,zQA];have hl:(kA x b l).length=l.length:=by rw [qN,zQC]
  rw [hl];exact⟨qBU hnm h.1,h1⟩
theorem sQ {n m:Int} (x:Int) {b:Ab} (hnm:n<=m) (hb:fH m b=true):∀ l,iE n l=true->iE m (kA x b l)=true
 | [],_=>by simp [kA,iE]
 | e :: r,h=>by
  simp only [iE,zQA] at h;simp only [kA,iE,zQA];exact⟨qDX x hnm hb e h.1,sQ x hnm hb r h.2⟩
end
mutual
theorem rep_dp {n:Int} (x:Int) (b:Ab):∀ e,fH n e=true->dpE e<=dpE (kK x b e)
 | ⟨o,v,l⟩,h=>by
  simp only [fH,zQA] at h;have h1:=zO x b l h.2;simp only [kK];split
  ·rename_i hc;have hf:=h.1;unfold kU at hf;rw [if_neg (by omega),if_pos hc.1,decide_eq_true_eq] at hf;have:l=[]:=List.length_eq_zero_iff.1 hf.2.2;subst this;have:=iL b;simp only [dpE,dpL];omega
  simp only [dpE];omega
theorem zO {n:Int} (x:Int) (b:Ab):∀ l,iE n l=true->dpL l<=dpL (kA x b l)
 | [],_=>by simp [kA]
 | e :: r,h=>by
  simp only [iE,zQA] at h;have h1:=rep_dp x b e h.1;have h2:=zO x b r h.2;simp only [kA,dpL];omega
end
mutual
theorem qDW {n x:Int} (b:Ab) (hx:x < 0\/n<=x):∀ e,fH n e=true->kK x b e=e
 | ⟨o,v,l⟩,h=>by
  simp only [fH,zQA] at h;have h1:=sP b hx l h.2;simp only [kK];split
  ·rename_i hc;have hf:=h.1;unfold kU at hf;rw [if_neg (by omega),if_pos hc.1,decide_eq_true_eq] at hf;omega
  rw [h1]
theorem sP {n x:Int} (b:Ab) (hx:x < 0\/n<=x):∀ l,iE n l=true->kA x b l=l
 | [],_=>by simp [kA]
 | e :: r,h=>by
  simp only [iE,zQA] at h;simp only [kA,qDW b hx e h.1,sP b hx r h.2]
end
def lZ (n inp:Int) (r:Ae):Bool:=(decide (r.kind=1/\r.Af=0)||decide (r.kind=2/\1<=r.Af/\r.Af<=1073741824))&&(decide (inp<=r.var/\r.var < n)&&valB n r.expr)
theorem tS (p:Go.Proofs.YtciilodpnepdbaaDoor.Program) {r:Ae} (ho:okE r.expr):eR p r=some (lZ (p.names.length:Int) p.inputs r):=by
 unfold eR lZ
 have tail : aD (
  if p.inputs <= r.var then
   if r.var < (p.names.length : Int) then
    aD (fR r.expr (p.names.length : Int)) fun r14 =>
    some r14
   else
    some false
  else
   some false) (fun x10 =>
 some x10) = some (decide (p.inputs <= r.var /\ r.var < (p.names.length : Int)) && valB (p.names.length : Int) r.expr) := by
  by_cases h1:p.inputs<=r.var
  ·rw [if_pos h1];by_cases h2:r.var < (p.names.length:Int)
   ·rw [if_pos h2,qGG _ ho,aA,aA,decide_eq_true ⟨h1,h2⟩,Bool.true_and]
   rw [if_neg h2,aA,decide_eq_false (λh=>h2 h.2),Bool.false_and]
  rw [if_neg h1,aA,decide_eq_false (λh=>h1 h.1),Bool.false_and]
 by_cases h1:r.kind=1
 ·rw [if_pos h1];by_cases h0:r.Af=0
  ·rw [if_pos h0,cY,tail,decide_eq_true (⟨h1,h0⟩:r.kind=1/\r.Af=0),Bool.true_or,Bool.true_and]
  rw [if_neg h0, cA, bM, decide_eq_false (by omega), decide_eq_false (by omega)];rfl
 rw [if_neg h1];by_cases h2:r.kind=2
 ·rw [if_pos h2];by_cases h0:r.Af < 1\/1073741824 < r.Af
  ·rw [if_pos (by simpa using h0), cA, bM, decide_eq_false (by omega), decide_eq_false (by omega)];rfl
  rw [if_neg (by simpa using h0),cY,tail,decide_eq_true (show r.kind=2/\1<=r.Af/\r.Af<=1073741824 by omega),Bool.or_true,Bool.true_and]
 rw [if_neg h2, cA, bM, decide_eq_false (by omega), decide_eq_false (by omega)];rfl
def dI (p:Go.Proofs.YtciilodpnepdbaaDoor.Program):Int:=
 if 2000 < p.names.length then 2
 else if p.inputs < 0\/(p.names.length:Int) < p.inputs then 1
 else if p.Ac.all (lZ (p.names.length:Int) p.inputs)=false then 1
 else if (p.Ac.map (·.var)).Nodup then 0 else 8
def mC (n:Nat) (l:List Int):List Bool:=(List.range n).map λ(j:Nat)=>decide ((j:Int)∈l)
theorem qBM (n:Nat) (l:List Int):(mC n l).length=n:=by simp [mC]
theorem qY {n:Nat} {l:List Int} {x:Int} (h0:0<=x) (h1:x < (n:Int)):(mC n l)[x.toNat]?=some (decide (x∈l)):=by
 unfold mC;rw [zQP,List.getElem?_range (by omega)];simp only [Option.map_some];rw [show ((x.toNat:Nat):Int)=x by omega]
theorem qBL {n:Nat} {l:List Int} {x:Int} (h0:0<=x) (h1:x < (n:Int)):(mC n l).set x.toNat true=mC n (l++[x]):=by
 apply List.ext_getElem?;intro j;rw [List.getElem?_set,qBM];by_cases hj:x.toNat=j
 ·subst hj;rw [if_pos rfl,if_pos (by omega),qY h0 h1];simp
 rw [if_neg hj];unfold mC;rw [zQP,zQP]
 cases hr:(List.range n)[j]? with
 | none=>rfl
 | some k=>
  have hk:k=j:=by
   rw [zQQ] at hr;obtain⟨hr1,hr2⟩:=hr;rw [List.getElem_range] at hr2;exact hr2.symm
  subst hk;simp only [Option.map_some,zQN,List.mem_singleton]
  congr 1
  rw [Bool.eq_iff_iff];simp only [decide_eq_true_eq];constructor
  ·intro h;exact .inl h
  rintro (h|h)
  ·exact h
  omega
theorem nodup_take {l:List Int}:l.Nodup↔∀ (i:Nat) (x:Int),l[i]?=some x->x∉l.take i:=by
 constructor
 ·intro h i x hx hm;have hi:=(zQQ.1 hx).1;obtain⟨j,hj,he⟩:=List.mem_take_iff_getElem.1 hm;rw [oE] at h;refine h j i (by omega) hi ?_;rw [hx,zQR (by omega),he]
 intro h;rw [oE];intro a c hac hc he;have hx:=zQR hc;rw [hx] at he;refine h c _ hx (List.mem_take_iff_getElem.2 ⟨a,by omega,?_⟩);exact (zQQ.1 he).2
structure POk (p:Go.Proofs.YtciilodpnepdbaaDoor.Program):Prop where
 Ac:p.Ac.length<=1000000000
 names:p.names.length<=9000000000000000000
 exprs:∀ r∈p.Ac,okE r.expr
theorem oD {p:Go.Proofs.YtciilodpnepdbaaDoor.Program} (h:POk p):fP p=some (dI p):=by
 have hr:=h.Ac;unfold fP dI;by_cases h1:2000 < p.names.length
 ·rw [if_pos (by omega),if_pos h1]
 rw [if_neg (by omega), if_neg h1];by_cases h2:p.inputs < 0\/(p.names.length:Int) < p.inputs
 ·rw [if_pos (by simpa using h2),if_pos h2]
 rw [if_neg (by simpa using h2), if_neg h2, gA p.Ac (fun r => !lZ (p.names.length : Int) p.inputs r) (.inr 1) (.inl ()) (by omega) (fun i r hx => ?_) (by rw [if_neg (by omega)]; rfl)]
 ·rw [nN]
  cases ha:p.Ac.all (lZ (p.names.length:Int) p.inputs) with
  | false=>rw [Bool.not_false,if_pos rfl,bM,if_pos rfl]
  | true=>
   rw [Bool.not_true,if_neg Bool.false_ne_true,cY,if_neg (by simp),aB (by omega)];rw [zQT] at ha
   have hv:∀ r∈p.Ac,0<=r.var/\r.var < (p.names.length:Int):=by
    intro r hr;have:=ha r hr;unfold lZ at this;simp only [zQA,decide_eq_true_eq] at this;omega
   have hn:((p.names.length:Int)).toNat=p.names.length:=by omega
   rw [hn,qBP p.Ac.length (λi=>mC p.names.length ((p.Ac.map (·.var)).take i)) (λi=>match p.Ac[i]? with|some r=>decide (r.var∈(p.Ac.map (·.var)).take i)|none=>false) (.inr 8) (.inl (mC p.names.length (p.Ac.map (·.var)))) (by simp [mC,List.map_const']) (by omega) (λi hi _=>?_) (λ_=>by dsimp only;rw [if_neg (by omega),List.take_of_length_le (by simp)];rfl)]
   ·by_cases hd:(p.Ac.map (·.var)).Nodup
    ·rw [if_pos hd,if_neg ?_,cY];rw [zQU];rintro⟨i,hi,hc⟩;rw [List.mem_range] at hi;rw [zQR hi] at hc;exact nodup_take.1 hd i p.Ac[i].var (by simp [hi]) (of_decide_eq_true hc)
    rw [if_neg hd,if_pos ?_,bM];rw [zQU];rw [nodup_take] at hd;simp only [Classical.not_forall,Classical.not_not] at hd;obtain⟨i,x,hx,hm⟩:=hd;have hi:=(zQQ.1 hx).1;rw [zQC] at hi;refine⟨i,List.mem_range.2 hi,?_⟩;rw [zQP,zQR hi] at hx;simp only [Option.map_some,Option.some.injEq] at hx;rw [zQR hi];subst hx;exact decide_eq_true hm
   have hx:=zQR hi;have hvi:=hv _ (List.getElem_mem hi);dsimp only;rw [if_pos (by omega),aT hx,gC hvi.1 (qY hvi.1 hvi.2),hx];dsimp only;by_cases hm:p.Ac[i].var∈(p.Ac.map (·.var)).take i
   ·simp only [decide_eq_true hm];rfl
   simp only [decide_eq_false hm, Bool.false_eq_true, if_false]; rw [gC hvi.1 (qY hvi.1 hvi.2), aB (bO hi (by omega)), qBL hvi.1 hvi.2];rw [List.take_add_one (l:=p.Ac.map (·.var)),zQP,hx];rfl
 have hi:=(zQQ.1 hx).1;rw [if_pos (by omega),aT hx,tS p (h.exprs r (zQM hx)),aA,aB (bO hi (by omega))];rfl
theorem cE {p:Go.Proofs.YtciilodpnepdbaaDoor.Program} (h:dI p=0):p.names.length<=2000/\0<=p.inputs/\p.inputs<=(p.names.length:Int)/\(∀ r∈p.Ac,lZ (p.names.length:Int) p.inputs r=true)/\(p.Ac.map (·.var)).Nodup:=by
 unfold dI at h;split at h
 ·cases h
 split at h
 ·cases h
 split at h
 ·cases h
 split at h
 ·rename_i h1 h2 h3 h4;refine⟨by omega,by omega,by omega,?_,h4⟩;rw [<- zQT];simpa using h3
 cases h
def bA (p:Go.Proofs.YtciilodpnepdbaaDoor.Program):Machine:=if dI p=0 then ⟨List.replicate p.names.length false,List.replicate p.Ac.length 0,false⟩ else ⟨[],[],true⟩
def qFH (p:Go.Proofs.YtciilodpnepdbaaDoor.Program):Machine:=⟨(bA p).vars,(bA p).counts,true⟩
theorem oC {p:Go.Proofs.YtciilodpnepdbaaDoor.Program} (h:POk p):dX p=some (bA p):=by
 unfold dX bA;rw [oD h,aA];by_cases hz:dI p=0
 ·have:=cE hz;have:=h.Ac;rw [if_pos hz,if_pos hz,aB (by omega),aB (by omega),show ((p.names.length:Int)).toNat=p.names.length by omega,show ((p.Ac.length:Int)).toNat=p.Ac.length by omega]
 rw [if_neg hz,if_neg hz]
theorem qEI {p:Go.Proofs.YtciilodpnepdbaaDoor.Program} (h:POk p):kO p=some (qFH p):=by
 unfold kO;rw [oC h,aA];rfl
def uV (r:Ae) (c:Int):Bool:=decide (0<=c/\c<=r.Af)
def cS (p:Go.Proofs.YtciilodpnepdbaaDoor.Program) (m:Machine):Bool:=decide (dI p=0/\m.vars.length=p.names.length/\m.counts.length=p.Ac.length)&&(List.zip p.Ac m.counts).all λx=>uV x.1 x.2
theorem qEJ {p:Go.Proofs.YtciilodpnepdbaaDoor.Program} (h:POk p) (m:Machine):iU p m=some (cS p m):=by
 have hr:=h.Ac;unfold iU cS;rw [oD h,aA];by_cases hh:dI p=0/\m.vars.length=p.names.length/\m.counts.length=p.Ac.length
 ·obtain⟨h1,h2,h3⟩:=hh;have hzl:(List.zip p.Ac m.counts).length=p.Ac.length:=by rw [List.length_zip];omega
  rw [if_pos h1,if_pos (by omega),aA,decide_eq_true (show (m.counts.length:Int)=(p.Ac.length:Int) by omega),if_neg (by simp),decide_eq_true ⟨h1,h2,h3⟩,Bool.true_and];rw [gA (List.zip p.Ac m.counts) (λx=>!uV x.1 x.2) (.inr false) (.inl ()) (by omega) (λi x hx=>?_) (by rw [if_neg (by omega)];rfl),nN]
  ·cases (List.zip p.Ac m.counts).all (λx=>uV x.1 x.2)<;>rfl
  have hi:=(zQQ.1 hx).1;obtain⟨r,c⟩:=x;rw [List.getElem?_zip_eq_some] at hx;obtain⟨hx1,hx2⟩:=hx;dsimp only at hx1 hx2 ⊢;rw [if_pos (by omega),aT hx1,aT hx2,aT hx2,aB (bO hi (by omega))];unfold uV;by_cases hc:c < 0
  ·rw [if_pos hc, aA, if_pos rfl, if_pos (by rw [decide_eq_false (by omega)]; rfl)];rfl
  rw [if_neg hc,aA];by_cases hd:r.Af < c
  ·rw [decide_eq_true hd,if_pos rfl,if_pos (by rw [decide_eq_false (by omega)];rfl)];rfl
  rw [decide_eq_false hd,if_neg (by simp),if_neg (by rw [decide_eq_true (by omega)];simp)]
 rw [decide_eq_false hh,Bool.false_and]
 have e1:(if dI p=(0:Int) then if (m.vars.length:Int)=(p.names.length:Int) then some (!(decide ((m.counts.length:Int)=(p.Ac.length:Int)))) else some true else some true)=some true:=by
  by_cases h1:dI p=0
  ·rw [if_pos h1];by_cases h2:m.vars.length=p.names.length
   ·rw [if_pos (by omega),decide_eq_false (by omega)];rfl
   rw [if_neg (by omega)]
  rw [if_neg h1]
 rw [e1,aA,if_pos rfl]
def kC (r:Ae) (v:Bool) (c:Int):Int×Bool:=if r.kind=2 then (if v=true then (if c < r.Af then (c+1,decide (c+1=r.Af)) else (c,decide (c=r.Af))) else (0,false)) else (c,v)
def qA (V:List Bool) (x:Ae×Int):List Bool:=V.set x.1.var.toNat (kC x.1 (evE V x.1.expr) x.2).2
def gM (l:List (Ae×Int)) (V:List Bool):List Bool:=l.foldl qA V
theorem qAV (V:List Bool) (x:Ae×Int):(qA V x).length=V.length:=by unfold qA;rw [List.length_set]
theorem nB:∀ (l:List (Ae×Int)) (V:List Bool),(gM l V).length=V.length
 | [],V=>rfl
 | x :: l,V=>by
  show (gM l (qA V x)).length=V.length;rw [nB l,qAV]
theorem vT (a b:List (Ae×Int)) (V:List Bool):gM (a++b) V=gM b (gM a V):=by unfold gM;rw [List.foldl_append]
def lS (l:List (Ae×Int)) (V:List Bool):List Int:=l.mapIdx λi x=>(kC x.1 (evE (gM (l.take i) V) x.1.expr) x.2).1
theorem nR (l:List (Ae×Int)) (V:List Bool):(lS l V).length=l.length:=by simp [lS]
def inV (n:Nat) (I V:List Bool):List Bool:=(List.range n).map (λi=>I.getD i false)++V.drop n
theorem uL {n:Nat} {I V:List Bool} (h:n<=V.length):(inV n I V).length=V.length:=by unfold inV;simp;omega
def bT (p:Go.Proofs.YtciilodpnepdbaaDoor.Program) (m:Machine) (I:List Bool):Machine:=
 if m.halted=true\/cS p m=false then qFH p
 else ⟨gM (List.zip p.Ac m.counts) (inV p.inputs.toNat I m.vars),lS (List.zip p.Ac m.counts) (inV p.inputs.toNat I m.vars),false⟩
theorem qCB (r : Ae) (c : Int) (v : Bool) (hp : r.Af <= 1073741824) (h0 : 0 <= c) {β : Type} (k : Int -> Bool -> Option β) : aD (fC r) (fun r38 => match r38.act with
     | .c60 => aD (dT c v) fun (r43, r44) => k r43 r44
     | .c61 u48 => aD (cX c v u48) fun (r50, r51) => k r50 r51) = k (kC r v c).1 (kC r v c).2 := by
 unfold fC kC;by_cases h2:r.kind=2
 ·rw [if_pos h2,aA,if_pos h2];dsimp only;unfold cX
  cases v with
  | false=>rw [Bool.not_false,if_pos rfl,aA,if_neg Bool.false_ne_true]
  | true=>
   rw [Bool.not_true,if_neg Bool.false_ne_true,if_pos rfl];by_cases hl:c < r.Af
   ·rw [if_pos hl,aB (by unfold I64;omega),aA,if_pos hl]
   rw [if_neg hl,aA,if_neg hl]
 rw [if_neg h2,aA,if_neg h2];rfl
theorem qEH {p:Go.Proofs.YtciilodpnepdbaaDoor.Program} (h:POk p) (m:Machine) (I:List Bool) (hd:∀ r∈p.Ac,dpE r.expr<=aZ) (hv:m.vars.length<=1000000000) (hcn:m.counts.length<=1000000000):fY p m I=some (bT p m I):=by
 have hr:=h.Ac;unfold fY bT
 have e1:(if (m.halted)=true then some true else aD (iU p m) λr4=>some (!(r4)))=some (decide (m.halted=true\/cS p m=false)):=by
  cases hm:m.halted with
  | true=>rw [if_pos rfl];simp
  | false=>
   rw [if_neg Bool.false_ne_true,qEJ h,aA];cases cS p m<;>rfl
 rw [e1,aA];by_cases hx:m.halted=true\/cS p m=false
 ·rw [if_pos (decide_eq_true hx),if_pos hx,qEI h,aA]
 rw [if_neg (by rw [decide_eq_false hx]; exact Bool.false_ne_true), if_neg hx];have hfit:cS p m=true:=by cases hf:cS p m with|true=>rfl|false=>exact absurd (.inr hf) hx
 unfold cS at hfit;simp only [zQA,decide_eq_true_eq,zQT] at hfit;obtain⟨⟨hz,hvl,hcl⟩,hcnt⟩:=hfit;obtain⟨hn1,hn2,hn3,hn4,hn5⟩:=cE hz
 have hcb:dC m.vars=some m.vars:=by
  unfold dC
  cases hmv:m.vars with
  | nil=>rfl
  | cons a l=>rw [<- hmv];simp only [wJ,hmv];rw [aB (by rw [<- hmv];simpa using hv)];rfl
 have hci:dL m.counts=some m.counts:=by
  unfold dL
  cases hmv:m.counts with
  | nil=>rfl
  | cons a l=>rw [<- hmv];simp only [wJ,hmv];rw [aB (by rw [<- hmv];simpa using hcn)];rfl
 rw [hcb,aA,hci,aA];have hin:p.inputs=((p.inputs.toNat:Nat):Int):=by omega
 have hib:p.inputs.toNat<=m.vars.length:=by omega
 rw [hin]
 have hsetin (k:Nat) (hk:k < m.vars.length):(inV k I m.vars).set k (I.getD k false)=inV (k+1) I m.vars:=by
  unfold inV;rw [List.set_append_right _ _ (by simp),List.range_succ,List.map_append];simp only [zQC,List.length_range,Nat.sub_self,List.map_cons,List.map_nil,List.append_assoc];rw [List.drop_eq_getElem_cons hk];rfl
 rw [iV p.inputs.toNat (λk=>inV k I m.vars) (o:=inV p.inputs.toNat I m.vars) (by simp [inV]) (by omega) (λk hk=>?_) (by dsimp only;rw [if_neg (by omega)];rfl),aA]
 ·have hV0 : (inV p.inputs.toNat I m.vars).length = p.names.length := by rw [uL hib, hvl]
  rw [show ((p.inputs.toNat:Int)).toNat=p.inputs.toNat by omega];generalize inV p.inputs.toNat I m.vars=V0 at hV0;have hzl:(List.zip p.Ac m.counts).length=p.Ac.length:=by rw [List.length_zip];omega
  rw [iV p.Ac.length (λk=>(gM ((List.zip p.Ac m.counts).take k) V0,(lS (List.zip p.Ac m.counts) V0).take k++m.counts.drop k)) (o:=(gM (List.zip p.Ac m.counts) V0,lS (List.zip p.Ac m.counts) V0)) (by simp [gM]) (by omega) (λk hk=>?_) (by dsimp only;rw [if_neg (by omega),List.take_of_length_le (by omega),List.take_of_length_le (by rw [nR];omega),List.drop_of_length_le (by omega),List.append_nil];rfl),aA];have hrk:=zQR hk;obtain⟨c,hck⟩:∃ c,m.counts[k]?=some c:=⟨_,zQR (by omega)⟩;have hrm:=List.getElem_mem hk;have hrb:=hn4 _ hrm;generalize p.Ac[k]=r at hrk hrm hrb;have hzk:(List.zip p.Ac m.counts)[k]?=some (r,c):=List.getElem?_zip_eq_some.2 ⟨hrk,hck⟩;have hcb2:=hcnt _ (zQM hzk);unfold lZ at hrb;simp only [zQA,Bool.or_eq_true,decide_eq_true_eq] at hrb;dsimp only at hcb2;unfold uV at hcb2;have hcb3:=of_decide_eq_true hcb2;have hVk:(gM ((List.zip p.Ac m.counts).take k) V0).length=p.names.length:=by rw [nB,hV0]
  have hcg:((lS (List.zip p.Ac m.counts) V0).take k++m.counts.drop k)[k]?=some c:=by
   rw [List.getElem?_append_right (by rw [List.length_take];omega),List.length_take,nR,hzl,show k - min k p.Ac.length=0 by omega,List.getElem?_drop];exact hck
  have hvk:0<=r.var/\r.var.toNat < p.names.length:=by omega
  have hnext:gM ((List.zip p.Ac m.counts).take (k+1)) V0=qA (gM ((List.zip p.Ac m.counts).take k) V0) (r,c):=by
   rw [List.take_add_one,hzk,vT];rfl
  have hcnx:(lS (List.zip p.Ac m.counts) V0)[k]?=some (kC r (evE (gM ((List.zip p.Ac m.counts).take k) V0) r.expr) c).1:=by
   unfold lS;rw [List.getElem?_mapIdx,hzk];rfl
  have hcset (x:Int) (hx:(lS (List.zip p.Ac m.counts) V0)[k]?=some x):((lS (List.zip p.Ac m.counts) V0).take k++m.counts.drop k).set k x=(lS (List.zip p.Ac m.counts) V0).take (k+1)++m.counts.drop (k+1):=by
   have hlt:((lS (List.zip p.Ac m.counts) V0).take k).length=k:=by rw [List.length_take,nR];omega
   rw [List.set_append_right _ _ (by omega),hlt,Nat.sub_self,List.take_add_one,hx,List.drop_eq_getElem_cons (by omega),List.set_cons_zero,List.append_assoc];rfl
  rw [hnext,<- hcset _ hcnx];unfold qA;dsimp only;rw [if_pos (by omega),aT hrk];generalize (lS (List.zip p.Ac m.counts) V0).take k++m.counts.drop k=T at hcg;generalize gM ((List.zip p.Ac m.counts).take k) V0=U at hVk;obtain⟨old,hvg⟩:∃ b,U[r.var.toNat]?=some b:=⟨_,zQR (by omega)⟩;rw [show ((k:Int)).toNat=k by omega];have hef:=qCB r c (evE U r.expr) (by omega) (by omega) (β:=(Int×List Bool×List Int) ⊕ (List Bool×List Int)) (λa b=>some (.inl ((k:Int)+1,U.set r.var.toNat b,T.set k a)));rw [<- hef];have hg64:I64 ((k:Int)+1):=bO hk (by omega)
  congr 1
  funext r38
  rw [aT hcg,qAS U (hd _ hrm) (h.exprs _ hrm),aA]
  cases r38.act with
  | c60=>
   dsimp only
   congr 1
   funext x
   obtain⟨a,d⟩:=x;dsimp only;rw [aT hcg,gC hvk.1 hvg,aB hg64]
  | c61 u=>
   dsimp only
   congr 1
   funext x
   obtain⟨a,d⟩:=x;dsimp only;rw [aT hcg,gC hvk.1 hvg,aB hg64]
 have hlk : (inV k I m.vars).length = m.vars.length := uL (by omega);have hgk:(inV k I m.vars)[k]?=some ((inV k I m.vars)[k]'(by omega)):=zQR (by omega);dsimp only;rw [if_pos (by omega),show ((k:Int)).toNat=k by omega,<- hsetin k (by omega)];by_cases hki:k < I.length
 ·rw [if_pos (by omega), aT (zQR hki), aT hgk, aB (by unfold I64; omega), zQD, zQR hki];rfl
 rw [if_neg (by omega), aT hgk, aB (by unfold I64; omega), zQD, List.getElem?_eq_none (by omega)];rfl
structure Slim (p:Go.Proofs.YtciilodpnepdbaaDoor.Program):Prop where
 ok:POk p
 Ac:p.Ac.length<=2000000
 size:∀ r∈p.Ac,szE r.expr<=2000000
def byR (p:Go.Proofs.YtciilodpnepdbaaDoor.Program) (i:Nat) (r:Ae):Ab:=if r.kind=2 then ⟨3,(p.names.length:Int)+i,[]⟩ else r.expr
def qCJ (p:Go.Proofs.YtciilodpnepdbaaDoor.Program):Nat->Ab->Option Ab
 | 0,c=>some c
 | i+1,c=>match p.Ac[i]? with
  | none=>some c
  | some r=>if 20000 < szE c+yV r.var c * (szE (byR p i r) - 1) then none else qCJ p i (kK r.var (byR p i r) c)
theorem qCI {p:Go.Proofs.YtciilodpnepdbaaDoor.Program} {i:Nat} {r:Ae} (hx:p.Ac[i]?=some r) (c:Ab):qCJ p (i+1) c=if 20000 < szE c+yV r.var c * (szE (byR p i r) - 1) then none else qCJ p i (kK r.var (byR p i r) c):=by
 simp only [qCJ,hx]
theorem qBA (r:Ae):szE r.expr<=r.enc.bulk:=by
 have:=tO r.expr;rw [Ab.Ag] at this;simp only [Ae.enc,Ab.enc,D.bulk,D.bulks] at *;omega
theorem qJ : ∀ l : List Ae, (l.map fun r => szE r.expr).sum <= D.bulks (l.map Ae.enc)
 | []=>by simp [D.bulks]
 | r :: l=>by
  have:=qBA r;have:=qJ l;simp only [List.map_cons,List.sum_cons,D.bulks];omega
theorem qBF {p:Go.Proofs.YtciilodpnepdbaaDoor.Program} {n:Nat} (h:p.enc.bulk<=n):(p.Ac.map λr=>szE r.expr).sum<=n/\p.Ac.length<=n/\p.names.length<=n:=by
 have h1:=qJ p.Ac;have h2:=D.length_le (p.Ac.map Ae.enc);have h3:=D.length_le (p.names.map D.str);rw [zQC] at h2 h3;simp only [Go.Proofs.YtciilodpnepdbaaDoor.Program.enc,D.bulk,D.bulks] at h;omega
theorem zJ : ∀ {l : List Ae} {r : Ae}, r ∈ l -> szE r.expr <= (l.map fun r => szE r.expr).sum
 | x :: l,r,h=>by
  rw [List.map_cons,List.sum_cons];rcases zQB.1 h with rfl|h
  ·omega
  have:=zJ h;omega
theorem qAY {p:Go.Proofs.YtciilodpnepdbaaDoor.Program} (hw:Go.Proofs.YtciilodpnepdbaaDoor.Program.Wf p) (h:p.enc.bulk<=1048576):Slim p:=by
 obtain⟨h1,h2,h3⟩:=qBF h;refine⟨⟨by omega,by omega,λr hr=>sU (hw.Ac.2 r hr).expr⟩,by omega,λr hr=>?_⟩;have:=zJ hr;omega
theorem hJ {p:Go.Proofs.YtciilodpnepdbaaDoor.Program} {m:Machine} (h:cS p m=true):dI p=0/\m.vars.length=p.names.length/\m.counts.length=p.Ac.length/\∀ x∈List.zip p.Ac m.counts,0<=x.2/\x.2<=x.1.Af:=by
 unfold cS at h;simp only [zQA,decide_eq_true_eq,zQT] at h;obtain⟨⟨hz,hvl,hcl⟩,hcnt⟩:=h;refine⟨hz,hvl,hcl,λx hx=>?_⟩;have:=hcnt x hx;unfold uV at this;exact of_decide_eq_true this
theorem qAE {n:Nat} {V:List Bool} (hV:V.length=n) (T:List Bool):∀ (k:Nat) (e:Ab),szE e<=k->fH (n:Int) e=true->evE (V++T) e=evE V e
 | 0,e,h,_=>by have:=tN e;omega
 | k+1,e,h,hg=>by
  have hse:=nW e;obtain⟨hf,hx⟩:=goodE_iff.1 hg;have ih:e.args.map (evE (V++T))=e.args.map (evE V):=List.map_congr_left λx hm=>qAE hV T k x (by have:=oF hm;omega) (hx x hm);rw [kV,kV,ih];unfold opB;by_cases h3:e.op=3
  ·rw [if_pos h3,if_pos h3];unfold kU at hf;rw [if_neg (by omega),if_pos h3,decide_eq_true_eq] at hf;rw [zQD,zQD,List.getElem?_append_left (by omega)]
  rw [if_neg h3,if_neg h3]
theorem qAD {V:List Bool} {x:Int} (h0:0<=x) (h1:x.toNat < V.length) (b:Ab):∀ (k:Nat) (e:Ab),szE e<=k->evE V (kK x b e)=evE (V.set x.toNat (evE V b)) e
 | 0,e,h=>by have:=tN e;omega
 | k+1,e,h=>by
  have hse:=nW e
  have ih:(e.args.map (kK x b)).map (evE V)=e.args.map (evE (V.set x.toNat (evE V b))):=by
   rw [List.map_map];exact List.map_congr_left λy hm=>qAD h0 h1 b k y (by have:=oF hm;omega)
  rw [qHG];by_cases hc:e.op=3/\e.var=x
  ·rw [if_pos hc,kV _ e];unfold opB;rw [if_pos hc.1,hc.2,decide_eq_true h0,Bool.true_and,zQD,List.getElem?_set_self h1];rfl
  rw [if_neg hc,kV,kV _ e];dsimp only;rw [ih];unfold opB;by_cases h3:e.op=3
  ·rw [if_pos h3,if_pos h3];have hne:e.var≠x:=λh=>hc ⟨h3,h⟩;by_cases hv:0<=e.var
   ·rw [zQD,zQD,List.getElem?_set_ne (by omega)]
   rw [decide_eq_false hv,Bool.false_and,Bool.false_and]
  rw [if_neg h3,if_neg h3]
theorem qIQ {r:Ae} {v:Bool} {c:Int} (h2:r.kind=2) (h0:0<=c) (h1:c<=r.Af) (hp:1<=r.Af):(kC r v c).2=decide ((kC r v c).1=r.Af):=by
 unfold kC;rw [if_pos h2]
 cases v with
 | false=>rw [if_neg Bool.false_ne_true,decide_eq_false (by omega)]
 | true=>
  rw [if_pos rfl];split<;>rfl
def xN (l:List (Ae×Int)) (V:List Bool):List Bool:=l.mapIdx λi x=>decide (x.1.kind=2)&&decide ((kC x.1 (evE (gM (l.take i) V) x.1.expr) x.2).1=x.1.Af)
theorem qDG (l:List (Ae×Int)) (V:List Bool):(xN l V).length=l.length:=by simp [xN]
theorem qGV {l:List (Ae×Int)} {V:List Bool} {i:Nat} {x:Ae×Int} (h:l[i]?=some x):(xN l V)[i]?=some (decide (x.1.kind=2)&&decide ((kC x.1 (evE (gM (l.take i) V) x.1.expr) x.2).1=x.1.Af)):=by
 unfold xN;rw [List.getElem?_mapIdx,h];rfl
theorem back {p:Go.Proofs.YtciilodpnepdbaaDoor.Program} {m:Machine} (hf:cS p m=true) {V:List Bool} (hV:V.length=p.names.length):∀ (i:Nat) (c e:Ab),i<=p.Ac.length->qCJ p i c=some e->evE (V++xN (List.zip p.Ac m.counts) V) e=evE (gM ((List.zip p.Ac m.counts).take i) V++xN (List.zip p.Ac m.counts) V) c
 | 0,c,e,_,h=>by
  simp only [qCJ,Option.some.injEq] at h;subst h;rfl
 | i+1,c,e,hi,h=>by
  obtain⟨hz,hvl,hcl,hcnt⟩:=hJ hf;obtain⟨hn1,hn2,hn3,hn4,hn5⟩:=cE hz;have hil:i < p.Ac.length:=by omega
  have hrk:=zQR hil;have hrm:=List.getElem_mem hil;rw [qCI hrk] at h;have hrb:=hn4 _ hrm;generalize p.Ac[i]=r at hrk hrm hrb h;obtain⟨k,hck⟩:∃ c,m.counts[i]?=some c:=⟨_,zQR (by omega)⟩;have hzk:(List.zip p.Ac m.counts)[i]?=some (r,k):=List.getElem?_zip_eq_some.2 ⟨hrk,hck⟩;have hcb:=hcnt _ (zQM hzk);have hzl:(List.zip p.Ac m.counts).length=p.Ac.length:=by rw [List.length_zip];omega
  have htl:=qDG (List.zip p.Ac m.counts) V;unfold lZ at hrb;simp only [zQA,Bool.or_eq_true,decide_eq_true_eq] at hrb;dsimp only at hcb;split at h
  ·cases h
  have hnext:gM ((List.zip p.Ac m.counts).take (i+1)) V=qA (gM ((List.zip p.Ac m.counts).take i) V) (r,k):=by
   rw [List.take_add_one,hzk,vT];rfl
  have hta:=qGV (V:=V) hzk;have hVk:(gM ((List.zip p.Ac m.counts).take i) V).length=p.names.length:=by rw [nB,hV]
  rw [back hf hV i _ _ (by omega) h,hnext];generalize gM ((List.zip p.Ac m.counts).take i) V=U at hVk hta;generalize xN (List.zip p.Ac m.counts) V=T at hta htl;dsimp only at hta
  have hval:evE (U++T) (byR p i r)=(kC r (evE U r.expr) k).2:=by
   unfold byR;by_cases h2:r.kind=2
   ·rw [if_pos h2,kV];unfold opB;dsimp only;rw [if_pos rfl,decide_eq_true (by omega),Bool.true_and,zQD,List.getElem?_append_right (by omega),show ((p.names.length:Int)+(i:Int)).toNat - U.length=i by omega,hta,qIQ h2 hcb.1 hcb.2 (by omega),decide_eq_true h2,Bool.true_and];rfl
   rw [if_neg h2,qAE hVk T _ r.expr (zQW _) hrb.2.2.1];unfold kC;rw [if_neg h2]
  rw [qAD (by omega) (by rw [zQL];omega) _ _ c (zQW _),hval,List.set_append_left _ _ (by omega)];rfl
theorem qIP:eH=some true:=by decide+kernel
theorem qCV {r:Ae} {v:Bool} {c:Int} (h:uV r c=true):uV r (kC r v c).1=true:=by
 have h1:=of_decide_eq_true h;unfold kC;split
 ·split
  ·split
   ·exact decide_eq_true (by omega)
   exact h
  exact decide_eq_true (by omega)
 exact h
theorem qGR {r:Ae} {v:Bool} {c k:Int} (h0:0<=c) (h:c<=k):(kC r v c).1<=k+1:=by
 unfold kC;split
 ·split
  ·split
   ·show c+1<=k+1;omega
   show c<=k+1;omega
  show (0:Int)<=k+1;omega
 show c<=k+1;omega
theorem vN {p:Go.Proofs.YtciilodpnepdbaaDoor.Program} {m:Machine} (I:List Bool) (hf:cS p m=true) (hh:m.halted=false):bT p m I=⟨gM (List.zip p.Ac m.counts) (inV p.inputs.toNat I m.vars),lS (List.zip p.Ac m.counts) (inV p.inputs.toNat I m.vars),false⟩:=by
 unfold bT;rw [if_neg (by rw [hf,hh];simp)]
theorem qFP {l:List (Ae×Int)} {V:List Bool} {k:Nat} {c:Int} (h:(lS l V)[k]?=some c):∃ r c' v,l[k]?=some (r,c')/\c=(kC r v c').1:=by
 unfold lS at h;rw [List.getElem?_mapIdx] at h
 cases hz:l[k]? with
 | none=>rw [hz] at h;cases h
 | some y=>
  rw [hz] at h;exact⟨y.1,y.2,_,rfl,(Option.some.inj h).symm⟩
theorem kH {p:Go.Proofs.YtciilodpnepdbaaDoor.Program} {m:Machine} (I:List Bool) (hf:cS p m=true) (hh:m.halted=false):cS p (bT p m I)=true/\(bT p m I).halted=false:=by
 rw [vN I hf hh];refine⟨?_,rfl⟩;unfold cS at hf ⊢;simp only [zQA,decide_eq_true_eq] at hf;obtain⟨⟨hz,hvl,hcl⟩,hcnt⟩:=hf;obtain⟨hn1,hn2,hn3,hn4,hn5⟩:=cE hz;dsimp only;have hzl:(List.zip p.Ac m.counts).length=p.Ac.length:=by rw [List.length_zip];omega
 rw [decide_eq_true ⟨hz,by rw [nB,uL (by omega),hvl],by rw [nR,hzl]⟩,Bool.true_and,zQT];rw [zQT] at hcnt;intro x hx;obtain⟨k,hk⟩:=List.getElem?_of_mem hx;obtain⟨r,c⟩:=x;rw [List.getElem?_zip_eq_some] at hk;obtain⟨hk1,hk2⟩:=hk;dsimp only at hk1 hk2 ⊢;obtain⟨r',c',v,h1,h2⟩:=qFP hk2;have hm:=hcnt _ (zQM h1);rw [List.getElem?_zip_eq_some] at h1;have h3:=h1.1;dsimp only at h3;rw [hk1] at h3;cases h3;subst h2;exact qCV hm
theorem zL {p:Go.Proofs.YtciilodpnepdbaaDoor.Program} {m:Machine} (I:List Bool) (hf:cS p m=true) (hh:m.halted=false) {k:Int} (hk:∀ c∈m.counts,c<=k):∀ c∈(bT p m I).counts,c<=k+1:=by
 rw [vN I hf hh];intro c hc;obtain⟨j,hj⟩:=List.getElem?_of_mem hc;obtain⟨r,c',v,h1,h2⟩:=qFP hj;obtain⟨hz,hvl,hcl,hcnt⟩:=hJ hf;have h0:=hcnt _ (zQM h1);rw [List.getElem?_zip_eq_some] at h1;subst h2;exact qGR h0.1 (hk _ (zQM h1.2))
theorem mX {p:Go.Proofs.YtciilodpnepdbaaDoor.Program} (h:dI p=0):cS p (bA p)=true/\(bA p).halted=false/\∀ c∈(bA p).counts,c=0:=by
 unfold bA;rw [if_pos h];refine⟨?_,rfl,λc hc=>List.eq_of_mem_replicate hc⟩;unfold cS;dsimp only;rw [decide_eq_true ⟨h,by simp,by simp⟩,Bool.true_and,zQT];intro x hx;obtain⟨r,c⟩:=x;have h1:=List.of_mem_zip hx;have h2:=List.eq_of_mem_replicate h1.2;subst h2;obtain⟨_,_,_,h4,_⟩:=cE h;have h5:=h4 r h1.1;unfold lZ at h5;simp only [zQA,Bool.or_eq_true,decide_eq_true_eq] at h5;dsimp only;unfold uV;exact decide_eq_true (by omega)
theorem yT {p:Go.Proofs.YtciilodpnepdbaaDoor.Program} {m:Machine} (hf:cS p m=true):∀ c∈m.counts,0<=c:=by
 intro c hc;obtain⟨hz,hvl,hcl,hcnt⟩:=hJ hf;obtain⟨j,hj⟩:=List.getElem?_of_mem hc;have hl:=(zQQ.1 hj).1;have hr:p.Ac[j]?=some p.Ac[j]:=zQR (by omega);exact (hcnt (p.Ac[j],c) (zQM (List.getElem?_zip_eq_some.2 ⟨hr,hj⟩))).1
def MOk (m:Machine):Prop:=m.vars.length<=1000000000/\m.counts.length<=1000000000
theorem vJ {p:Go.Proofs.YtciilodpnepdbaaDoor.Program} (h:Slim p):MOk (bA p):=by
 unfold bA;split
 ·rename_i hz;have:=cE hz;have:=h.Ac;exact⟨by simp;omega,by simp;omega⟩
 exact⟨by simp,by simp⟩
theorem qIB {p:Go.Proofs.YtciilodpnepdbaaDoor.Program} (h:Slim p):MOk (qFH p):=vJ h
theorem zY {p:Go.Proofs.YtciilodpnepdbaaDoor.Program} (h:Slim p) {m:Machine} (hf:cS p m=true):MOk m:=by
 obtain⟨hz,hvl,hcl,hcnt⟩:=hJ hf;have:=cE hz;have:=h.Ac;exact⟨by omega,by omega⟩
theorem qGZ {p:Go.Proofs.YtciilodpnepdbaaDoor.Program} (h:Slim p) {m:Machine} (I:List Bool):MOk (bT p m I):=by
 by_cases hx:m.halted=true\/cS p m=false
 ·unfold bT;rw [if_pos hx];exact qIB h
 have hf : cS p m = true := by cases hf : cS p m with | true => rfl | false => exact absurd (.inr hf) hx
 have hh:m.halted=false:=by cases hf:m.halted with|false=>rfl|true=>exact absurd (.inl hf) hx
 exact zY h (kH I hf hh).1
theorem qGJ {p:Go.Proofs.YtciilodpnepdbaaDoor.Program} (h:Slim p) {m:Machine} (hm:MOk m) (I:List Bool):fY p m I=some (bT p m I):=
 qEH h.ok m I (λr hr=>by have:=tC r.expr;have:=h.size r hr;unfold aZ;omega) hm.1 hm.2
theorem same02 {a b:List Int} (h:a.length<=hP):fO a b=some (decide (a=b)):=by
 unfold hP at h;unfold fO;by_cases hl:a.length=b.length
 ·rw [if_pos (by omega), qBO a.length (fun i => decide (a[i]? ≠ b[i]?)) (.inr false) (.inl ()) h (fun i hi => ?_) (by rw [if_neg (by omega)]; rfl)]
  ·by_cases he:a=b
   ·subst he;rw [if_neg (by simp)];simp
   rw [if_pos ?_,decide_eq_false he]
   ·rfl
   rw [zQU];apply Classical.byContradiction;intro hc;apply he;apply List.ext_getElem?;intro i;by_cases hi:i < a.length
   ·apply Classical.byContradiction;intro hn;exact hc ⟨i,List.mem_range.2 hi,decide_eq_true hn⟩
   rw [List.getElem?_eq_none (by omega),List.getElem?_eq_none (by omega)]
  have ha:=zQR hi;have hb:=zQR (l:=b) (show i < b.length by omega);rw [if_pos (by omega),aT ha,aT hb,aB (bO hi h)];rw [ha,hb];by_cases he:a[i]=b[i]
  ·rw [if_pos he,if_neg (by rw [he];simp)]
  rw [if_neg he, if_pos (by simpa using he)];rfl
 rw [if_neg (by omega),decide_eq_false (λhe=>hl (by rw [he]))]
theorem tD:∀ (fu:Nat) (e:Ab) (left:Int),dpE e<=fu->okE e->0<=left->left<=1000000->∃ r,cM fu e left=some r/\1<=r/\r<=left+1
 | 0,e,left,h,_,_,_=>by rw [iL] at h;omega
 | fu+1,e,left,h,ho,h0,hm=>by
  rw [iL] at h;have hd:∀ x∈e.args,dpE x<=fu:=dpL_le.1 (by omega);obtain⟨hl,hox⟩:=okE_iff.1 ho;unfold cM
  obtain ⟨o, h1, h2⟩ := pQ (f := fun ((n5 : Int), (i6 : Int)) =>
    if ((decide (i6 < (e.args.length : Int))) && (decide (n5 <= left))) = true then
     bE e.args i6 fun e10 =>
     aE (I64 (left - n5)) <|
     aD ((cM fu) e10 (left - n5)) fun r12 =>
     aE (I64 (n5 + r12)) <|
     aE (I64 (i6 + (1 : Int))) <|
     some (.inl ((n5 + r12), (i6 + (1 : Int))))
    else
     aL (
      some n5)) (s := ((1 : Int), (0 : Int))) (fun (o : Int) => 1 <= o /\ o <= left + 1) (fun i s => s.2 = (i : Int) /\ 1 <= s.1 /\ s.1 <= left + 1) e.args.length hl ⟨rfl, by omega, by omega⟩ (fun i hi s hI => by
    obtain ⟨n, k⟩ := s;obtain ⟨h1, h2, h3⟩ := hI;dsimp only at h1 h2 h3;subst h1;dsimp only;by_cases hn : n <= left
    ·left;have hm := List.getElem_mem hi;obtain ⟨r, hr1, hr2, hr3⟩ := tD fu e.args[i] (left - n) (hd _ hm) (hox _ hm) (by omega) (by omega);rw [if_pos (by rw [decide_eq_true (show (i : Int) < (e.args.length : Int) by omega), decide_eq_true hn]; rfl), aT (zQR hi), aB (by unfold I64; omega), hr1, aA, aB (by unfold I64; omega), aB (bO hi hl)];exact ⟨_, rfl, by push_cast; rfl, by show 1 <= n + r; omega, by show n + r <= left + 1; omega⟩
    ·right;rw [if_neg (by rw [decide_eq_false hn, Bool.and_false]; exact Bool.false_ne_true)]
     exact ⟨_, rfl, h2, h3⟩) (fun s hI => by
    obtain ⟨n, k⟩ := s;obtain ⟨h1, h2, h3⟩ := hI;dsimp only at h1 h2 h3;subst h1;dsimp only;rw [if_neg (by rw [decide_eq_false (by omega), Bool.false_and]; exact Bool.false_ne_true)]
    exact ⟨_, rfl, h2, h3⟩)
  rw [h1,aA];exact⟨o,rfl,h2⟩
theorem few20 {p:Go.Proofs.YtciilodpnepdbaaDoor.Program} (h:Slim p):∃ b,iS p 20=some b:=by
 have hr:=h.Ac;unfold iS;split
 ·exact⟨_,rfl⟩
 obtain ⟨o, h1, h2⟩ := pQ (f := fun (i5 : Int) =>
   if i5 < (p.Ac.length : Int) then
    bE p.Ac i5 fun e8 =>
    aD (iC e8.expr (200 : Int)) fun r9 =>
    if (200 : Int) < r9 then
     aL (
      aL (
       some false))
    else
     aE (I64 (i5 + (1 : Int))) <|
     some (.inl (i5 + (1 : Int)))
   else
    aL (
     some (.inl ()))) (s := (0 : Int)) (fun (o : Unit ⊕ Bool) => True) (fun i s => s = (i : Int)) p.Ac.length (by unfold hP; omega) rfl (fun i hi s hI => by
   subst hI;have hm := List.getElem_mem hi;obtain ⟨r, hr1, _⟩ := tD aZ p.Ac[i].expr 200 (by have := tC p.Ac[i].expr; have := h.size _ hm; unfold aZ; omega) (h.ok.exprs _ hm) (by omega) (by omega);rw [if_pos (by omega), aT (zQR hi)];unfold iC;rw [hr1, aA];split
   ·exact .inr ⟨_, rfl, trivial⟩
   ·rw [aB (bO hi (by omega))]
    exact .inl ⟨_, rfl, by push_cast; rfl⟩) (fun s hI => by
   subst hI;rw [if_neg (by omega)]
   exact ⟨_, rfl, trivial⟩)
 rw [h1]
 cases o with
 | inl u=>exact⟨_,rfl⟩
 | inr b=>exact⟨_,rfl⟩
structure Ok26 (p:Go.Proofs.YtciilodpnepdbaaDoor.Program) (l:List Aa) (I:List (List Bool)):Prop where
 slim:Slim p
 len:l.length<=hP
 obs:∀ e∈l,okE e.expr/\szE e.expr<=1000000000
 inp:I.length<=hP
theorem few26 {p:Go.Proofs.YtciilodpnepdbaaDoor.Program} {l:List Aa} {I:List (List Bool)} (h:Ok26 p l I):∃ b,iR p l I=some b:=by
 have hl:=h.len;have hI:=h.inp;unfold iR;obtain⟨b,hb⟩:=few20 h.slim;rw [hb,aA]
 have key : ∀ x : Bool, ∃ b', (if x = true then some false else
  cH (
   bC (fun i9 =>
    if i9 < (l.length : Int) then
     bE l i9 fun e12 =>
     aD (gW e12.expr) fun r13 =>
     if (200 : Int) < r13 then
      aL (
       aL (
        some false))
     else
      aE (I64 (i9 + (1 : Int))) <|
      some (.inl (i9 + (1 : Int)))
    else
     aL (
      some (.inl ()))) (0 : Int)) fun _ =>
  cH (
   bC (fun i21 =>
    if i21 < (I.length : Int) then
     bE I i21 fun e24 =>
     if (40 : Int) < (e24.length : Int) then
      aL (
       aL (
        some false))
     else
      aE (I64 (i21 + (1 : Int))) <|
      some (.inl (i21 + (1 : Int)))
    else
     aL (
      some (.inl ()))) (0 : Int)) fun _ =>
  some true) = some b' := by
  intro x
  cases x with
  | true=>exact⟨_,rfl⟩
  | false=>
   rw [if_neg Bool.false_ne_true,gA l (λe=>decide ((200:Int) < (szE e.expr:Int))) (.inr false) (.inl ()) hl (λi e hx=>?_) (by rw [if_neg (by omega)];rfl),gA I (λe=>decide ((40:Int) < (e.length:Int))) (.inr false) (.inl ()) hI (λi e hx=>?_) (by rw [if_neg (by omega)];rfl)]
   ·split
    ·exact⟨_,rfl⟩
    rw [cY];split
    ·exact⟨_,rfl⟩
    exact⟨_,rfl⟩
   ·have hi:=(zQQ.1 hx).1;rw [if_pos (by omega),aT hx,aB (bO hi hI)];by_cases hc:(40:Int) < (e.length:Int)
    ·rw [if_pos hc,if_pos (decide_eq_true hc)];rfl
    rw [if_neg hc,if_neg (by simpa using hc)]
   have hi:=(zQQ.1 hx).1;rw [if_pos (by omega),aT hx,qGY (h.obs e (zQM hx)).2,aA,aB (bO hi hl)];by_cases hc:(200:Int) < (szE e.expr:Int)
   ·rw [if_pos hc,if_pos (decide_eq_true hc)];rfl
   rw [if_neg hc,if_neg (by simpa using hc)]
 cases b with
 | false=>rw [if_pos (by rfl),aA];exact key true
 | true=>
  rw [if_neg (by simp)];split
  ·rw [aA];exact key true
  rw [aA];exact key _
def cZ (l:List Aa) (m:Machine):Bool:=l.any λe=>!(evE m.vars e.expr)
theorem qIR {l:List Aa} (m:Machine) (hl:l.length<=hP) (h:∀ e∈l,szE e.expr<=1000000000):eD l m=some (cZ l m):=by
 unfold hP at hl;unfold eD cZ;rw [gA l (λe=>!(evE m.vars e.expr)) (.inr true) (.inl ()) hl (λi e hx=>?_) (by rw [if_neg (by omega)];rfl)]
 ·cases l.any fun e => !(evE m.vars e.expr)
  ·rw [if_neg (by simp)];rfl
  rw [if_pos rfl];rfl
 have hi:=(zQQ.1 hx).1;rw [if_pos (by omega),aT hx,qGK m.vars (h e (zQM hx)),aA,aB (bO hi hl)];rfl
theorem yM (l:List Aa) (m:Machine):decide ((0:Int)<=uM l m)=cZ l m:=by
 unfold uM cZ;rw [Bool.eq_iff_iff,zQU,<- List.findIdx_lt_length];by_cases h:(l.findIdx λe=>!(evE m.vars e.expr)) < l.length
 ·rw [if_pos h];exact⟨λ_=>h,λ_=>decide_eq_true (by omega)⟩
 rw [if_neg h];exact⟨λh2=>absurd (of_decide_eq_true h2) (by decide),λh2=>absurd h2 h⟩
def oV (p:Go.Proofs.YtciilodpnepdbaaDoor.Program) (I:List (List Bool)) (m:Machine) (i:Int):Machine:=if 0<=i/\i < (I.length:Int) then bT p m (I.getD i.toNat []) else m
def fN (p:Go.Proofs.YtciilodpnepdbaaDoor.Program) (I:List (List Bool)) (t:List Int):Machine:=t.foldl (oV p I) (bA p)
theorem nX (p:Go.Proofs.YtciilodpnepdbaaDoor.Program) (I:List (List Bool)) (t:List Int) (k:Int):fN p I (t++[k])=oV p I (fN p I t) k:=by simp [fN,List.foldl_append]
theorem qBC {p:Go.Proofs.YtciilodpnepdbaaDoor.Program} {I:List (List Bool)} {t:List Int} {i:Nat} {k:Int} (h:t[i]?=some k):fN p I (t.take (i+1))=oV p I (fN p I (t.take i)) k:=by
 rw [List.take_add_one,h];exact nX p I _ k
theorem qHF {p:Go.Proofs.YtciilodpnepdbaaDoor.Program} (h:Slim p) (I:List (List Bool)) (t:List Int):MOk (fN p I t):=by
 have key:∀ (t:List Int) (m:Machine),MOk m->MOk (t.foldl (oV p I) m):=by
  intro t
  induction t with
  | nil=>intro m hm;exact hm
  | cons x r ih=>
   intro m hm;refine ih _ ?_;unfold oV;split
   ·exact qGZ h _
   exact hm
 exact key t _ (vJ h)
theorem qCQ {p:Go.Proofs.YtciilodpnepdbaaDoor.Program} (h:Slim p) (I:List (List Bool)) {t:List Int} (ht:t.length<=hP):dN p I t=some (fN p I t):=by
 unfold hP at ht;unfold dN;rw [oC h.ok,aA,jM (s:=((0:Int),(bA p).vars,(bA p).counts,(bA p).halted)) (λi=>((i:Int),(fN p I (t.take i)).vars,(fN p I (t.take i)).counts,(fN p I (t.take i)).halted)) t.length (o:=((fN p I t).vars,(fN p I t).counts,(fN p I t).halted)) rfl ht ?_ ?_]
 ·rfl
 ·intro i hi;have hx:=zQR hi;dsimp only;rw [if_pos (by omega),aT hx,qBC hx];unfold oV;by_cases hc:0<=t[i]/\t[i] < (I.length:Int)
  ·rw [if_pos (by simpa using hc), if_pos hc];have hI:I[t[i].toNat]?=some I[t[i].toNat]:=zQR (by omega);rw [gC hc.1 hI,qGJ h (qHF h I _),aA,aB (bO hi ht),zQD,hI];rfl
  rw [if_neg (by simpa using hc), if_neg hc, aB (bO hi ht)];rfl
 dsimp only;rw [if_neg (by omega),List.take_length];rfl
theorem rO {a b:D} {l:List D} {n:Nat} (h:D.bulks (a :: l)<=n):a.bulk<=n/\D.bulks l<=n:=by simp only [D.bulks] at h;omega
theorem obs26 {l:List Aa} {k:Nat} (w:l.length<=reachBytes/\∀ y∈l,Aa.Wf y) (hb:(D.sl k (l.map Aa.enc)).bulk<=1048576):l.length<=hP/\∀ e∈l,okE e.expr/\szE e.expr<=1000000000:=by
 refine⟨by have:=yK w.1;unfold hP;omega,λe he=>⟨sU (w.2 e he).expr,?_⟩⟩;have h1:=qHN e;have h2:=D.part_le (List.mem_map_of_mem (f:=Aa.enc) he);simp only [D.bulk] at hb;omega
def jO (n:Int):List Int:=if n < 10 then [48+n] else [48+n / 10,48+n % 10]
theorem qAX:∀ n:Fin 100,(dR (n.val:Int)).map cW=some (jO (n.val:Int)):=by decide+kernel
theorem qCY:∀ n:Fin 100,IntKind.u64.wrap (n.val:Int)=(n.val:Int)/\IntKind.i64.wrap (n.val:Int)=(n.val:Int):=by decide+kernel
theorem qAG (n:Int):1<=(jO n).length/\(jO n).length<=2:=by
 unfold jO;split<;>simp
theorem qIN {p0:List Int} {n:Int} (h0:0<=n) (h1:n < 100) (hl:p0.length<=999999990):dA p0 n 10=some (p0++jO n):=by
 obtain⟨k,rfl⟩:∃ k:Nat,n=(k:Int):=⟨n.toNat,by omega⟩;have hs:=qAX ⟨k,by omega⟩;have hw:=qCY ⟨k,by omega⟩;dsimp only at hs hw;obtain⟨hu,hi⟩:=hw;unfold dA dK dB;rw [if_neg (by omega),aA,hu,if_pos rfl,if_pos (by omega),hi]
 cases hr:dR (k:Int) with
 | none=>rw [hr] at hs;cases hs
 | some r=>
  rw [hr] at hs;have hb:cW r=jO (k:Int):=Option.some.inj hs;have hd:=qAG (k:Int);have hz:r.size=(jO (k:Int)).length:=by rw [<- hb,iM]
  rw [aA,hb,aB ⟨by omega,by rw [zQL];omega⟩];rfl
def uK (b:Bool):List Int:=if b=true then [116,114,117,101] else [102,97,108,115,101]
def qFB (m:Machine):List Int:=uK m.halted++(m.vars.map λv=>if v=true then (49:Int) else 48)++m.counts.flatMap λn=>32 :: jO n
def mO (m:Machine):BA:=strOfNums (qFB m)
theorem zV : ∀ l : List Int, (l.flatMap fun n => 32 :: jO n).length <= 3 * l.length
 | []=>by simp
 | x :: r=>by
  have:=zV r;have:=qAG x;rw [List.flatMap_cons,zQL,List.length_cons,List.length_cons];omega
structure MSm (m:Machine):Prop where
 vars:m.vars.length<=2000000
 counts:m.counts.length<=2000000
 cnt:∀ c∈m.counts,0<=c/\c < 100
theorem qGM {m:Machine} (h:MSm m):eI m=some (mO m):=by
 have hv:=h.vars;have hc:=h.counts;have hh:dP [] m.halted=some (uK m.halted):=by cases m.halted<;>decide+kernel
 have hk:(uK m.halted).length<=5:=by cases m.halted<;>simp [uK]
 unfold eI;rw [hh,aA];rw [iV m.vars.length (λi=>uK m.halted++((m.vars.take i).map λv=>if v=true then (49:Int) else 48)) (o:=uK m.halted++(m.vars.map λv=>if v=true then (49:Int) else 48)) (by simp) (by omega) (λi hi=>?_) (by dsimp only;rw [if_neg (by omega),List.take_length];rfl),aA]
 ·rw [iV m.counts.length (fun i => uK m.halted ++ (m.vars.map fun v => if v = true then (49 : Int) else 48) ++ ((m.counts.take i).flatMap fun n => 32 :: jO n)) (o := qFB m) (by simp) (by omega) (fun i hi => ?_) (by dsimp only; rw [if_neg (by omega), List.take_length]; rfl), aA]
  ·rfl
  have hx:=zQR hi;have hcc:=h.cnt _ (List.getElem_mem hi)
  have hl:((m.counts.take i).flatMap λn=>32 :: jO n).length<=6000000:=by
   have:=zV (m.counts.take i);rw [List.length_take] at this;omega
  dsimp only;rw [if_pos (by omega),aT hx,aB (by simp only [zQL,zQC,List.length_cons,List.length_nil];omega),qIN hcc.1 hcc.2 (by simp only [zQL,zQC,List.length_cons,List.length_nil];omega),aA,aB (bO hi (by omega)),List.take_add_one,hx,List.flatMap_append];simp
 have hx:=zQR hi;dsimp only
 have hg:∀ x:Int,(uK m.halted++((m.vars.take i).map λv=>if v=true then (49:Int) else 48)++[x]).length<=1000000000:=by
  intro x;simp only [zQL,zQC,List.length_take,List.length_cons,List.length_nil];omega
 rw [if_pos (by omega),aT hx,List.take_add_one,hx];by_cases hb:m.vars[i]=true
 ·rw [if_pos hb,aB (hg 49),aB (bO hi (by omega))];simp [hb]
 rw [if_neg hb,aB (hg 48),aB (bO hi (by omega))];simp [hb]
theorem wH : ∀ {a b : List Int}, (∀ x ∈ a, 0 <= x /\ x < 256) -> (∀ x ∈ b, 0 <= x /\ x < 256) -> (a.map fun n => UInt8.ofNat n.toNat) = (b.map fun n => UInt8.ofNat n.toNat) -> a = b
 | [],[],_,_,_=>rfl
 | [],y :: s,_,_,h=>by simp at h
 | x :: r,[],_,_,h=>by simp at h
 | x :: r,y :: s,ha,hb,h=>by
  rw [List.map_cons,List.map_cons] at h;obtain⟨h1,h2⟩:=List.cons.inj h;have h3:=congrArg UInt8.toNat h1;rw [UInt8.toNat_ofNat',UInt8.toNat_ofNat'] at h3;have hx:=ha x (by simp);have hy:=hb y (by simp);rw [Nat.mod_eq_of_lt (by omega),Nat.mod_eq_of_lt (by omega)] at h3;have:x=y:=by omega
  subst this;rw [wH (λz hz=>ha z (by simp [hz])) (λz hz=>hb z (by simp [hz])) h2]
theorem qCD {n:Int} (h0:0<=n) (h1:n < 100):∀ x∈jO n,0<=x/\x < 256:=by
 unfold jO;split
 ·intro x hx;simp at hx;omega
 intro x hx;simp at hx;omega
theorem sW {m:Machine} (h:MSm m):∀ x∈qFB m,0<=x/\x < 256:=by
 intro x hx;unfold qFB at hx;simp only [zQN,List.mem_map,List.mem_flatMap,zQB] at hx;rcases hx with (hx|⟨v,_,rfl⟩)|⟨n,hn,rfl|hx⟩
 ·unfold uK at hx;split at hx<;>simp at hx<;>omega
 ·split<;>omega
 ·omega
 have:=h.cnt n hn;exact qCD this.1 this.2 x hx
theorem qID {a b:Int} (ha:0<=a) (hb:0<=b) {X Y:List Int} (hX:∀ x∈X.head?,x=32) (hY:∀ x∈Y.head?,x=32) (h:jO a++X=jO b++Y):a=b/\X=Y:=by
 unfold jO at h;by_cases h1:a < 10
 ·rw [if_pos h1] at h;by_cases h2:b < 10
  ·rw [if_pos h2] at h;simp only [List.cons_append,List.nil_append,List.cons.injEq] at h;exact⟨by omega,h.2⟩
  rw [if_neg h2] at h;simp only [List.cons_append,List.nil_append,List.cons.injEq] at h;have:=hX (48+b % 10) (by rw [h.2];simp);omega
 rw [if_neg h1] at h;by_cases h2:b < 10
 ·rw [if_pos h2] at h;simp only [List.cons_append,List.nil_append,List.cons.injEq] at h;have:=hY (48+a % 10) (by rw [<- h.2];simp);omega
 rw [if_neg h2] at h;simp only [List.cons_append,List.nil_append,List.cons.injEq] at h;exact⟨by omega,h.2.2⟩
theorem sY (l:List Int):∀ x∈(l.flatMap λn=>32 :: jO n).head?,x=32:=by
 cases l with
 | nil=>simp
 | cons a r=>rw [List.flatMap_cons];simp
theorem xC : ∀ {a b : List Int}, (∀ c ∈ a, 0 <= c) -> (∀ c ∈ b, 0 <= c) -> (a.flatMap fun n => 32 :: jO n) = (b.flatMap fun n => 32 :: jO n) -> a = b
 | [],[],_,_,_=>rfl
 | [],y :: s,_,_,h=>by rw [List.flatMap_cons] at h;simp at h
 | x :: r,[],_,_,h=>by rw [List.flatMap_cons] at h;simp at h
 | x :: r,y :: s,ha,hb,h=>by
  rw [List.flatMap_cons,List.flatMap_cons,List.cons_append,List.cons_append] at h;obtain⟨h1,h2⟩:=qID (ha x (by simp)) (hb y (by simp)) (sY r) (sY s) (List.cons.inj h).2;subst h1;rw [xC (λz hz=>ha z (by simp [hz])) (λz hz=>hb z (by simp [hz])) h2]
theorem vF : ∀ {a b : List Bool}, (a.map fun v => if v = true then (49 : Int) else 48) = (b.map fun v => if v = true then (49 : Int) else 48) -> a = b
 | [],[],_=>rfl
 | [],y :: s,h=>by simp at h
 | x :: r,[],h=>by simp at h
 | x :: r,y :: s,h=>by
  rw [List.map_cons,List.map_cons] at h;obtain⟨h1,h2⟩:=List.cons.inj h;rw [vF h2];cases x<;>cases y<;>first|rfl|(exact absurd h1 (by decide))
theorem qHV {m m':Machine} (h:MSm m) (h':MSm m') (hh:m.halted=m'.halted) (hv:m.vars.length=m'.vars.length) (he:mO m=mO m'):m=m':=by
 unfold mO strOfNums at he;have h1:=List.toArray_inj (ByteArray.mk.inj he);have h2:=wH (sW h) (sW h') h1;unfold qFB at h2;rw [hh,List.append_assoc,List.append_assoc] at h2;have h3:=List.append_cancel_left h2;obtain⟨h4,h5⟩:=List.append_inj h3 (by simp [hv]);obtain⟨a,b,c⟩:=m;obtain⟨a',b',c'⟩:=m';dsimp only at hh h4 h5;have e5:b=b':=xC (λz hz=>(h.cnt z hz).1) (λz hz=>(h'.cnt z hz).1) h5;rw [hh,vF h4,e5]
def aQ (n:Nat) (t:List Int):Nat:=t.foldl (λc x=>c * n+(x.toNat+1)) 0
theorem cT (n:Nat) (t:List Int) (k:Int):aQ n (t++[k])=aQ n t * n+(k.toNat+1):=by simp [aQ,List.foldl_append]
def digs (n:Nat) (t:List Int):Prop:=∀ x∈t,0<=x/\x < (n:Int)
theorem digs_snoc {n:Nat} {t:List Int} {k:Int}:digs n (t++[k])↔digs n t/\0<=k/\k < (n:Int):=by
 unfold digs;simp only [zQN,List.mem_singleton];constructor
 ·intro h;exact⟨λx hx=>h x (.inl hx),h k (.inr rfl)⟩
 rintro⟨h1,h2⟩ x (hx|rfl)
 ·exact h1 x hx
 exact h2
theorem qW {a b n:Nat} (h:a < b):a * n+n<=b * n:=by
 have:=Nat.mul_le_mul_right n (show a+1<=b from h);rw [Nat.add_mul,Nat.one_mul] at this;exact this
theorem qC {P:List Int->Prop} (h0:P []) (hs:∀ t k,P t->P (t++[k])):∀ t,P t:=by
 have key:∀ (n:Nat) (t:List Int),t.length=n->P t:=by
  intro n
  induction n with
  | zero=>intro t ht;rw [List.eq_nil_of_length_eq_zero ht];exact h0
  | succ n ih=>
   intro t ht;have hne:t≠[]:=by intro e;rw [e] at ht;cases ht
   rw [<- List.dropLast_concat_getLast hne];exact hs _ _ (ih _ (by rw [List.length_dropLast];omega))
 exact λt=>key _ t rfl
def loT (n:Nat):Nat->Nat
 | 0=>0
 | L+1=>loT n L * n+1
theorem qEX (n:Nat):∀ L,loT n L<=loT n (L+1)
 | 0=>Nat.zero_le _
 | L+1=>by
  show loT n L * n+1<=loT n (L+1) * n+1;have:=Nat.mul_le_mul_right n (qEX n L);omega
theorem qEW (n:Nat) {a b:Nat} (h:a<=b):loT n a<=loT n b:=by
 induction h with
 | refl=>exact zQW _
 | step _ ih=>exact Nat.le_trans ih (qEX n _)
theorem eY (n:Nat):∀ t,digs n t->loT n t.length<=aQ n t/\aQ n t < loT n (t.length+1):=by
 refine qC ?_ ?_
 ·intro _;exact⟨zQW _,by show 0 < 0 * n+1;omega⟩
 intro t k ih h;obtain⟨h1,h2,h3⟩:=digs_snoc.1 h;obtain⟨ha,hb⟩:=ih h1;rw [cT,zQL];show loT n t.length * n+1<=_/\_ < loT n (t.length+1) * n+1;have h4:=Nat.mul_le_mul_right n ha;have h5:=qW (n:=n) hb;omega
theorem jA {n:Nat} {a b:List Int} (ha:digs n a) (hb:digs n b) (h:aQ n a<=aQ n b):a.length<=b.length:=by
 apply Classical.byContradiction;intro hc;have h1:=(eY n a ha).1;have h2:=(eY n b hb).2;have h3:=qEW n (show b.length+1<=a.length by omega);omega
theorem oO (n:Nat):∀ a,digs n a->∀ b,digs n b->aQ n a=aQ n b->a=b:=by
 refine qC ?_ ?_
 ·intro _ b hb h;have:=jA hb (show digs n [] by intro x hx;cases hx) (by omega);exact (List.eq_nil_of_length_eq_zero (by simpa using this)).symm
 intro a x ih ha b hb h;have hl:=jA ha hb (by omega);have hne:b≠[]:=by intro e;rw [e] at hl;simp at hl
 rw [<- List.dropLast_concat_getLast hne] at hb h ⊢;generalize b.dropLast=s at hb h ⊢;generalize b.getLast hne=y at hb h ⊢;obtain⟨ha1,ha2,ha3⟩:=digs_snoc.1 ha;obtain⟨hb1,hb2,hb3⟩:=digs_snoc.1 hb;rw [cT,cT] at h
 have he:aQ n a=aQ n s:=by
  rcases Nat.lt_trichotomy (aQ n a) (aQ n s) with h4|h4|h4
  ·have:=qW (n:=n) h4;omega
  ·exact h4
  have:=qW (n:=n) h4;omega
 rw [he] at h;rw [ih ha1 s hb1 he,show x=y by omega]
inductive Res26 where
 | cont (W:List Visit')
 | fail
 | found (W:List Visit')
section defs
variable (p:Go.Proofs.YtciilodpnepdbaaDoor.Program) (I:List (List Bool)) (d:Int) (viol:Machine->Bool)
def iI (W:List Visit') (m:Machine):Bool:=W.any λv=>decide (v.m=m)
def oU (W:List Visit') (w:Visit') (k:Nat) (a:List Bool):Res26:=
 if iI W (bT p w.m a)=true then .cont W
 else if 500<=W.length then .fail
 else if viol (bT p w.m a)=true then .found (W++[⟨bT p w.m a,w.trace++[(k:Int)]⟩])
 else .cont (W++[⟨bT p w.m a,w.trace++[(k:Int)]⟩])
def inW (w:Visit'):List (List Bool)->Nat->List Visit'->Res26
 | [],_,W=>.cont W
 | a :: r,k,W=>match oU p viol W w k a with
  | .cont W'=>inW w r (k+1) W'
  | .fail=>.fail
  | .found W'=>.found W'
def nL:Nat->Nat->List Visit'->Res26
 | 0,_,W=>.cont W
 | fu+1,i,W=>match W[i]? with
  | none=>.cont W
  | some w=>if (w.trace.length:Int) < d then
    match inW p viol w I 0 W with
    | .cont W'=>nL fu (i+1) W'
    | .fail=>.fail
    | .found W'=>.found W'
   else nL fu (i+1) W
def bfs:Res26:=if viol (bA p)=true then .found [⟨bA p,[]⟩] else nL p I d viol 501 0 [⟨bA p,[]⟩]
structure Inv26 (W:List Visit'):Prop where
 head:∃ W',W=⟨bA p,[]⟩ :: W'
 fits:∀ w∈W,cS p w.m=true/\w.m.halted=false/\(∀ c∈w.m.counts,c<=(w.trace.length:Int))/\(w.trace.length:Int)<=d
 rep:∀ w∈W,w.m=fN p I w.trace/\digs I.length w.trace
 inc:∀ (a b:Nat) w v,a < b->W[a]?=some w->W[b]?=some v->aQ I.length w.trace < aQ I.length v.trace
 len:W.length<=500
 nd:∀ (a b:Nat) w v,a < b->W[a]?=some w->W[b]?=some v->w.m≠v.m
 nov:∀ w∈W,viol w.m=false
structure At26 (W:List Visit') (i k:Nat):Prop where
 inv:Inv26 p I d viol W
 bnd:∀ w,W[i]?=some w->∀ v∈W,aQ I.length v.trace < aQ I.length w.trace * I.length+(k+1)
 cov:∀ (j:Nat) w (k':Nat),W[j]?=some w->(j < i\/(j=i/\k' < k))->k' < I.length->(w.trace.length:Int) < d->∃ v∈W,v.m=bT p w.m (I.getD k' [])/\aQ I.length v.trace<=aQ I.length w.trace * I.length+(k'+1)
structure Done26 (W:List Visit'):Prop where
 inv:Inv26 p I d viol W
 cov:∀ (j:Nat) w (k':Nat),W[j]?=some w->k' < I.length->(w.trace.length:Int) < d->∃ v∈W,v.m=bT p w.m (I.getD k' [])/\aQ I.length v.trace<=aQ I.length w.trace * I.length+(k'+1)
def qGO (W:List Visit'):Prop:=∃ W0 i w k,At26 p I d viol W0 i k/\W0[i]?=some w/\k < I.length/\(w.trace.length:Int) < d/\W=W0++[⟨bT p w.m (I.getD k []),w.trace++[(k:Int)]⟩]/\viol (bT p w.m (I.getD k []))=true
end defs
section
variable {p:Go.Proofs.YtciilodpnepdbaaDoor.Program} {I:List (List Bool)} {d:Int} {viol:Machine->Bool}
theorem pS {α:Type} {W:List α} {x w:α} {j:Nat} (h:W[j]?=some w):(W++[x])[j]?=some w:=by
 have:=(zQQ.1 h).1;rw [List.getElem?_append_left this];exact h
theorem fV {α:Type} {W:List α} {x w:α} {j:Nat} (h:(W++[x])[j]?=some w):W[j]?=some w\/(j=W.length/\w=x):=by
 by_cases hj:j < W.length
 ·rw [List.getElem?_append_left hj] at h;exact .inl h
 rw [List.getElem?_append_right (by omega)] at h;by_cases hz:j - W.length=0
 ·rw [hz] at h;exact .inr ⟨by omega,(Option.some.inj h).symm⟩
 rw [List.getElem?_eq_none (by simp;omega)] at h;cases h
theorem known_iff {W:List Visit'} {m:Machine}:iI W m=true↔∃ v∈W,v.m=m:=by
 unfold iI;rw [zQU];exact⟨λ⟨v,h1,h2⟩=>⟨v,h1,of_decide_eq_true h2⟩,λ⟨v,h1,h2⟩=>⟨v,h1,decide_eq_true h2⟩⟩
theorem sR {w:Visit'} {k:Nat} (hk:k < I.length) (h:w.m=fN p I w.trace):fN p I (w.trace++[(k:Int)])=bT p w.m (I.getD k []):=by
 rw [nX,<- h];unfold oV;rw [if_pos ⟨by omega,by omega⟩];rfl
theorem qHW {W:List Visit'} {i k:Nat} {w:Visit'} (h:At26 p I d viol W i k) (hw:W[i]?=some w) (hk:k < I.length) (hd:(w.trace.length:Int) < d) (hn:¬ iI W (bT p w.m (I.getD k []))=true) (hl:¬ 500<=W.length):
  (∃ W',W++[⟨bT p w.m (I.getD k []),w.trace++[(k:Int)]⟩]=⟨bA p,[]⟩ :: W')/\
  (∀ v∈W++[⟨bT p w.m (I.getD k []),w.trace++[(k:Int)]⟩],cS p v.m=true/\v.m.halted=false/\(∀ c∈v.m.counts,c<=(v.trace.length:Int))/\(v.trace.length:Int)<=d)/\
  (∀ v∈W++[⟨bT p w.m (I.getD k []),w.trace++[(k:Int)]⟩],v.m=fN p I v.trace/\digs I.length v.trace)/\
  (∀ (a b:Nat) x v,a < b->(W++[⟨bT p w.m (I.getD k []),w.trace++[(k:Int)]⟩])[a]?=some x->(W++[⟨bT p w.m (I.getD k []),w.trace++[(k:Int)]⟩])[b]?=some v->aQ I.length x.trace < aQ I.length v.trace)/\
  (∀ (a b:Nat) x v,a < b->(W++[⟨bT p w.m (I.getD k []),w.trace++[(k:Int)]⟩])[a]?=some x->(W++[⟨bT p w.m (I.getD k []),w.trace++[(k:Int)]⟩])[b]?=some v->x.m≠v.m):=by
 have hwm:=zQM hw;obtain⟨f1,f2,f3,f4⟩:=h.inv.fits w hwm;obtain⟨r1,r2⟩:=h.inv.rep w hwm;obtain⟨s1,s2⟩:=kH (I.getD k []) f1 f2;refine⟨?_,?_,?_,?_,?_⟩
 ·obtain⟨W',e⟩:=h.inv.head;exact⟨W'++[⟨bT p w.m (I.getD k []),w.trace++[(k:Int)]⟩],by rw [e];rfl⟩
 ·intro v hv;rcases zQN.1 hv with hv|hv
  ·exact h.inv.fits v hv
  rw [List.mem_singleton] at hv;subst hv;refine⟨s1,s2,?_,?_⟩
  ·intro c hc;have:=zL (I.getD k []) f1 f2 f3 c hc;simp only [zQL,List.length_cons,List.length_nil];omega
  simp only [zQL,List.length_cons,List.length_nil];omega
 ·intro v hv;rcases zQN.1 hv with hv|hv
  ·exact h.inv.rep v hv
  rw [List.mem_singleton] at hv;subst hv;exact⟨(sR hk r1).symm,digs_snoc.2 ⟨r2,by omega,by omega⟩⟩
 ·intro a b x v hab hx hv;rcases fV hv with hv|⟨hb,hv⟩
  ·rcases fV hx with hx|⟨ha,hx⟩
   ·exact h.inv.inc a b x v hab hx hv
   have:=(zQQ.1 hv).1;omega
  rcases fV hx with hx|⟨ha,hx⟩
  ·subst hv;rw [cT];have:=h.bnd w hw x (zQM hx);omega
  omega
 intro a b x v hab hx hv;rcases fV hv with hv|⟨hb,hv⟩
 ·rcases fV hx with hx|⟨ha,hx⟩
  ·exact h.inv.nd a b x v hab hx hv
  have:=(zQQ.1 hv).1;omega
 rcases fV hx with hx|⟨ha,hx⟩
 ·subst hv;intro he;exact hn (known_iff.2 ⟨x,zQM hx,he⟩)
 omega
def qJI (p:Go.Proofs.YtciilodpnepdbaaDoor.Program) (I:List (List Bool)) (d:Int) (viol:Machine->Bool) (i k:Nat) (w:Visit'):Res26->Prop
 | .cont W=>At26 p I d viol W i k/\W[i]?=some w
 | .fail=>True
 | .found W=>qGO p I d viol W
theorem tP {W:List Visit'} {i k:Nat} {w:Visit'} (h:At26 p I d viol W i k) (hw:W[i]?=some w) (hk:k < I.length) (hd:(w.trace.length:Int) < d):qJI p I d viol i (k+1) w (oU p viol W w k (I.getD k [])):=by
 have hwm:=zQM hw;unfold oU;by_cases hn:iI W (bT p w.m (I.getD k []))=true
 ·rw [if_pos hn];refine⟨⟨h.inv,?_,?_⟩,hw⟩
  ·intro w' hw' v hv;have:=h.bnd w' hw' v hv;omega
  intro j x k' hx hc hk' hx';by_cases he:j < i\/(j=i/\k' < k)
  ·exact h.cov j x k' hx he hk' hx'
  have hj : j = i /\ k' = k := by omega
  obtain⟨rfl,rfl⟩:=hj;have:x=w:=Option.some.inj (hx.symm.trans hw);subst this;obtain⟨v,hv,hvm⟩:=known_iff.1 hn;exact⟨v,hv,hvm,by have:=h.bnd x hw v hv;omega⟩
 rw [if_neg hn];by_cases hl:500<=W.length
 ·rw [if_pos hl];trivial
 rw [if_neg hl];by_cases hv:viol (bT p w.m (I.getD k []))=true
 ·rw [if_pos hv];exact⟨W,i,w,k,h,hw,hk,hd,rfl,hv⟩
 rw [if_neg hv];obtain⟨a1,a2,a3,a4,a5⟩:=qHW h hw hk hd hn hl;refine⟨⟨⟨a1,a2,a3,a4,by rw [zQL];simp;omega,a5,?_⟩,?_,?_⟩,pS hw⟩
 ·intro v hv';rcases zQN.1 hv' with hv'|hv'
  ·exact h.inv.nov v hv'
  rw [List.mem_singleton] at hv';subst hv';simpa using hv
 ·intro w' hw' v hv';have:w'=w:=Option.some.inj (hw'.symm.trans (pS hw));subst this;rcases zQN.1 hv' with hv'|hv'
  ·have:=h.bnd w' hw v hv';omega
  rw [List.mem_singleton] at hv';subst hv';rw [cT];omega
 intro j x k' hx hc hk' hx'
 have hxW:W[j]?=some x:=by
  rcases fV hx with hx|⟨hj,_⟩
  ·exact hx
  have:=(zQQ.1 hw).1;omega
 by_cases he:j < i\/(j=i/\k' < k)
 ·obtain⟨v,q1,q2,q3⟩:=h.cov j x k' hxW he hk' hx';exact⟨v,List.mem_append_left _ q1,q2,q3⟩
 have hj : j = i /\ k' = k := by omega
 obtain⟨rfl,rfl⟩:=hj;have:x=w:=Option.some.inj (hxW.symm.trans hw);subst this;exact⟨_,List.mem_append_right _ (List.mem_singleton.2 rfl),rfl,by rw [cT];omega⟩
theorem qFD {i:Nat} {w:Visit'} (hd:(w.trace.length:Int) < d):∀ (l:List (List Bool)) (k:Nat) (W:List Visit'),I.drop k=l->k<=I.length->At26 p I d viol W i k->W[i]?=some w->qJI p I d viol i I.length w (inW p viol w l k W)
 | [],k,W,hl,hk,h,hw=>by
  have:k=I.length:=by
   have:=congrArg List.length hl;rw [List.length_drop] at this;simp at this;omega
  subst this;exact⟨h,hw⟩
 | a :: r,k,W,hl,hk,h,hw=>by
  have hk':k < I.length:=by
   have:=congrArg List.length hl;rw [List.length_drop] at this;simp at this;omega
  have ha:I.getD k []=a:=by
   rw [zQD,<- List.head?_drop,hl];rfl
  have hr:I.drop (k+1)=r:=by rw [<- List.tail_drop,hl];rfl
  have:=tP h hw hk' hd;rw [ha] at this;unfold inW
  cases hs:oU p viol W w k a with
  | cont W'=>
   rw [hs] at this;exact qFD hd r (k+1) W' hr hk' this.1 this.2
  | fail=>trivial
  | found W'=>
   rw [hs] at this;exact this
theorem uG {W:List Visit'} {i k:Nat} {w:Visit'} (h:At26 p I d viol W i k) (hw:W[i]?=some w) (hk:k=I.length\/(k=0/\¬ (w.trace.length:Int) < d)):At26 p I d viol W (i+1) 0:=by
 refine⟨h.inv,?_,?_⟩
 ·intro w' hw' v hv;have h1:=h.bnd w hw v hv;have h2:=qW (n:=I.length) (h.inv.inc i (i+1) w w' (by omega) hw hw');omega
 intro j x k' hx hc hk' hx';by_cases hj:j < i
 ·exact h.cov j x k' hx (.inl hj) hk' hx'
 have : j = i := by omega
 subst this;have:x=w:=Option.some.inj (hx.symm.trans hw);subst this;rcases hk with hk|⟨_,hk⟩
 ·exact h.cov j x k' hx (.inr ⟨rfl,by omega⟩) hk' hx'
 exact absurd hx' hk
def End26 (p:Go.Proofs.YtciilodpnepdbaaDoor.Program) (I:List (List Bool)) (d:Int) (viol:Machine->Bool):Res26->Prop
 | .cont W=>Done26 p I d viol W
 | .fail=>True
 | .found W=>qGO p I d viol W
theorem qAF {W:List Visit'} {i:Nat} (h:At26 p I d viol W i 0) (hi:W.length<=i):Done26 p I d viol W:=
 ⟨h.inv,λj w k' hx hk' hd=>h.cov j w k' hx (.inl (by have:=(zQQ.1 hx).1;omega)) hk' hd⟩
theorem uD:∀ (fu i:Nat) (W:List Visit'),501<=fu+i->At26 p I d viol W i 0->End26 p I d viol (nL p I d viol fu i W)
 | 0,i,W,hf,h=>qAF h (by have:=h.inv.len;omega)
 | fu+1,i,W,hf,h=>by
  unfold nL
  cases hw:W[i]? with
  | none=>exact qAF h (List.getElem?_eq_none_iff.1 hw)
  | some w=>
   dsimp only;by_cases hd:(w.trace.length:Int) < d
   ·rw [if_pos hd];have:=qFD (i:=i) hd I 0 W rfl (Nat.zero_le _) h hw
    cases hs:inW p viol w I 0 W with
    | cont W'=>
     rw [hs] at this;exact uD fu (i+1) W' (by omega) (uG this.1 this.2 (.inl rfl))
    | fail=>trivial
    | found W'=>rw [hs] at this;exact this
   rw [if_neg hd];exact uD fu (i+1) W (by omega) (uG h hw (.inr ⟨rfl,hd⟩))
theorem qB (hc:dI p=0) (hd:0<=d) (hv:viol (bA p)=false):At26 p I d viol [⟨bA p,[]⟩] 0 0:=by
 obtain⟨f1,f2,f3⟩:=mX hc
 have one:∀ (a:Nat) w,([⟨bA p,[]⟩]:List Visit')[a]?=some w->a=0:=λa w h=>by
  have:=(zQQ.1 h).1;simp at this;exact this
 refine⟨⟨⟨[],rfl⟩,?_,?_,?_,by simp,?_,?_⟩,?_,?_⟩
 ·intro w hw;rw [List.mem_singleton] at hw;subst hw;exact⟨f1,f2,λc hc=>by rw [f3 c hc];simp,by simpa using hd⟩
 ·intro w hw;rw [List.mem_singleton] at hw;subst hw;exact⟨rfl,λx hx=>by cases hx⟩
 ·intro a b w v hab h1 h2;have:=one a w h1;have:=one b v h2;omega
 ·intro a b w v hab h1 h2;have:=one a w h1;have:=one b v h2;omega
 ·intro w hw;rw [List.mem_singleton] at hw;subst hw;exact hv
 ·intro w hw v hv;rw [List.mem_singleton] at hv;subst hv;show 0 < _;omega
 intro j w k' h1 h2;omega
theorem qIW {W:List Visit'} (inv:Inv26 p I d viol W) (C:Nat->Nat->Prop) (cov:∀ (j:Nat) w (k':Nat),W[j]?=some w->C j k'->k' < I.length->(w.trace.length:Int) < d->∃ v∈W,v.m=bT p w.m (I.getD k' [])/\aQ I.length v.trace<=aQ I.length w.trace * I.length+(k'+1))
  (D:Nat->Prop) (hD:∀ a b,a<=b->D b->D a) (hC:∀ (j:Nat) w (k':Nat),W[j]?=some w->k' < I.length->D (aQ I.length w.trace * I.length+(k'+1))->C j k'):∀ t,digs I.length t->(t.length:Int)<=d->D (aQ I.length t)->∃ v∈W,v.m=fN p I t/\aQ I.length v.trace<=aQ I.length t:=by
 refine qC ?_ ?_
 ·intro _ _ _;obtain⟨W',e⟩:=inv.head;exact⟨⟨bA p,[]⟩,by rw [e];simp,rfl,zQW _⟩
 intro t k ih hg hl hc;obtain⟨g1,g2,g3⟩:=digs_snoc.1 hg;rw [zQL,List.length_cons,List.length_nil] at hl;rw [cT] at hc ⊢;have hn:0 < I.length:=by omega
 have hle:aQ I.length t<=aQ I.length t * I.length:=Nat.le_mul_of_pos_right _ hn;obtain⟨v,v1,v2,v3⟩:=ih g1 (by omega) (hD _ _ (by omega) hc);obtain⟨j,hj⟩:=List.getElem?_of_mem v1;have hmul:=Nat.mul_le_mul_right I.length v3;have hvl:=jA (inv.rep v v1).2 g1 v3;obtain⟨u,u1,u2,u3⟩:=cov j v k.toNat hj (hC j v k.toNat hj (by omega) (hD _ _ (by omega) hc)) (by omega) (by omega);refine⟨u,u1,?_,by omega⟩;rw [u2,nX,<- v2];unfold oV;rw [if_pos ⟨g2,g3⟩]
theorem yR {W:List Visit'} (h:Done26 p I d viol W) {t:List Int} (hg:digs I.length t) (hl:(t.length:Int)<=d):viol (fN p I t)=false:=by
 obtain⟨v,v1,v2,_⟩:=qIW h.inv (λ_ _=>True) (λj w k' a _ b c=>h.cov j w k' a b c) (λ_=>True) (λ_ _ _ _=>trivial) (λ_ _ _ _ _ _=>trivial) t hg hl trivial;rw [<- v2];exact h.inv.nov v v1
theorem qFZ {W:List Visit'} {i k:Nat} {w:Visit'} (h:At26 p I d viol W i k) (hw:W[i]?=some w) (hk:k < I.length) {t:List Int} (hg:digs I.length t) (hl:(t.length:Int)<=d) (hc:aQ I.length t < aQ I.length w.trace * I.length+(k+1)):viol (fN p I t)=false:=by
 obtain ⟨v, v1, v2, _⟩ := qIW h.inv (fun j k' => j < i \/ (j = i /\ k' < k)) h.cov (fun c => c < aQ I.length w.trace * I.length + (k + 1)) (fun a b hab hb => by omega) (fun j x k' hx hk' hlt => by
  rcases Nat.lt_trichotomy j i with hj | hj | hj
  ·exact .inl hj
  ·subst hj;have : x = w := Option.some.inj (hx.symm.trans hw);subst this;exact .inr ⟨rfl, by omega⟩
  have := qW (n := I.length) (h.inv.inc i j w x hj hw hx)
  omega) t hg hl hc
 rw [<- v2];exact h.inv.nov v v1
structure Least26 (p:Go.Proofs.YtciilodpnepdbaaDoor.Program) (I:List (List Bool)) (d:Int) (viol:Machine->Bool) (T:Visit'):Prop where
 rep:T.m=fN p I T.trace
 digs:digs I.length T.trace
 len:(T.trace.length:Int)<=d
 bad:viol T.m=true
 least:∀ t,Go.Proofs.YtciilodpnepdbaaDoor.digs I.length t->(t.length:Int)<=d->aQ I.length t < aQ I.length T.trace->viol (fN p I t)=false
theorem qBV {W:List Visit'} (h:qGO p I d viol W):∃ W0 T,W=W0++[T]/\Least26 p I d viol T:=by
 obtain⟨W0,i,w,k,h1,h2,h3,h4,h5,h6⟩:=h;have hwm:=zQM h2;obtain⟨r1,r2⟩:=h1.inv.rep w hwm;refine⟨W0,_,h5,(sR h3 r1).symm,digs_snoc.2 ⟨r2,by omega,by omega⟩,by simp only [zQL,List.length_cons,List.length_nil];omega,h6,?_⟩;intro t t1 t2 t3;rw [cT] at t3;exact qFZ h1 h2 h3 t1 t2 (by omega)
theorem qCH {W:List Visit'} (hc:dI p=0) (hd:0<=d) (h:bfs p I d viol=.found W):∃ W0 T,W=W0++[T]/\Least26 p I d viol T:=by
 unfold bfs at h;by_cases hv:viol (bA p)=true
 ·rw [if_pos hv] at h;cases h;refine⟨[],⟨bA p,[]⟩,rfl,⟨rfl,λx hx=>(by cases hx),by simpa using hd,hv,λt _ _ ht=>?_⟩⟩;have h0:aQ I.length ([]:List Int)=0:=rfl;rw [h0] at ht;omega
 rw [if_neg hv] at h;have:=uD 501 0 _ (by omega) (qB (I:=I) hc hd (by simpa using hv));rw [h] at this;exact qBV this
theorem qFY {W:List Visit'} (hc:dI p=0) (hd:0<=d) (h:bfs p I d viol=.cont W):Done26 p I d viol W:=by
 unfold bfs at h;by_cases hv:viol (bA p)=true
 ·rw [if_pos hv] at h;cases h
 rw [if_neg hv] at h;have:=uD 501 0 _ (by omega) (qB (I:=I) hc hd (by simpa using hv));rw [h] at this;exact this
end
theorem kS {σ ρ:Type} {f:σ->Option (σ ⊕ ρ)} {P:ρ->Prop} (I:Nat->σ->Prop) (hs:∀ n s,I n s->(∃ o,f s=some (.inr o)/\P o)\/(∃ s',f s=some (.inl s')/\∃ n',n' < n/\I n' s')) {n:Nat} {s:σ} (hn:n<=1000000) (h:I n s):∃ o,bC f s=some o/\P o:=by
 suffices key:∀ n,∀ m,m<=n->∀ s,I m s->∃ o,fE f (n+1) s=some o/\P o by
  obtain⟨o,h1,h2⟩:=key n n (zQW _) s h;exact⟨o,rA h1 (by unfold aZ;omega),h2⟩
 intro n
 induction n with
 | zero=>
  intro m hm s hI;rcases hs m s hI with ⟨o,h1,h2⟩|⟨s',h1,n',h2,h3⟩
  ·exact⟨o,by simp [fE,h1],h2⟩
  omega
 | succ n ih=>
  intro m hm s hI;rcases hs m s hI with ⟨o,h1,h2⟩|⟨s',h1,n',h2,h3⟩
  ·exact⟨o,by rw [fE,h1],h2⟩
  obtain ⟨o, h4, h5⟩ := ih n' (by omega) s' h3;exact⟨o,by rw [fE,h1];exact h4,h5⟩
theorem qFX {α β:Type} {m:Option α} {P:α->Prop} {k:α->Option β} {Q:β->Prop} (h:∃ o,m=some o/\P o) (h2:∀ o,P o->∃ r,k o=some r/\Q r):∃ r,aD m k=some r/\Q r:=by
 obtain⟨o,rfl,h3⟩:=h;exact h2 o h3
theorem qFW {α β:Type} {m:Option (α ⊕ β)} {P:α ⊕ β->Prop} {k:α->Option β} {Q:β->Prop} (h:∃ o,m=some o/\P o) (hl:∀ a,P (.inl a)->∃ r,k a=some r/\Q r) (hr:∀ b,P (.inr b)->Q b):∃ r,cH m k=some r/\Q r:=by
 obtain⟨o,rfl,h3⟩:=h
 cases o with
 | inl a=>exact hl a h3
 | inr b=>exact⟨b,rfl,hr b h3⟩
structure VR (vs:List Ad) (W:List Visit'):Prop where
 len:vs.length=W.length
 ent:∀ (j:Nat) v w,vs[j]?=some v->W[j]?=some w->v.machine=w.m/\v.scan=(w.trace.length:Int)/\((v.before < 0/\w.trace=[])\/∃ (b:Nat) (w':Visit'),v.before=(b:Int)/\W[b]?=some w'/\w.trace=w'.trace++[v.input])
theorem VR.at {vs:List Ad} {W:List Visit'} (h:VR vs W) {j:Nat} {w:Visit'} (hw:W[j]?=some w):∃ v,vs[j]?=some v/\v.machine=w.m/\v.scan=(w.trace.length:Int)/\((v.before < 0/\w.trace=[])\/∃ (b:Nat) (w':Visit'),v.before=(b:Int)/\W[b]?=some w'/\w.trace=w'.trace++[v.input]):=by
 have hj:=(zQQ.1 hw).1;have hv:vs[j]?=some (vs[j]'(by rw [h.len];exact hj)):=zQR _;exact⟨_,hv,h.ent j _ w hv hw⟩
theorem VR.app {vs:List Ad} {W:List Visit'} (h:VR vs W) {i k:Nat} {w:Visit'} (hw:W[i]?=some w) (m:Machine):VR (vs++[⟨m,(i:Int),(k:Int),(w.trace.length:Int)+1⟩]) (W++[⟨m,w.trace++[(k:Int)]⟩]):=by
 refine⟨by simp [h.len],?_⟩;intro j v u hv hu;rcases fV hv with hv|⟨hj,rfl⟩
 ·rcases fV hu with hu|⟨hj,rfl⟩
  ·obtain⟨a,b,c⟩:=h.ent j v u hv hu;refine⟨a,b,?_⟩;rcases c with c|⟨b',w',c1,c2,c3⟩
   ·exact .inl c
   exact .inr ⟨b',w',c1,pS c2,c3⟩
  have:=(zQQ.1 hv).1;have:=h.len;omega
 rcases fV hu with hu|⟨hj',rfl⟩
 ·have:=(zQQ.1 hu).1;have:=h.len;omega
 exact⟨rfl,by simp,.inr ⟨i,w,rfl,pS hw,rfl⟩⟩
theorem VR.one (m:Machine):VR [⟨m,-1,0,0⟩] [⟨m,[]⟩]:=by
 refine⟨rfl,?_⟩;intro j v w hv hw;have hj:=(zQQ.1 hv).1;simp at hj;subst hj;cases hv;cases hw;exact⟨rfl,rfl,.inl ⟨by show (-1:Int) < 0;omega,rfl⟩⟩
theorem qGH {vs:List Ad} {W:List Visit'} (h:VR vs W) {j:Nat} {w:Visit'} (hw:W[j]?=some w) (hl:w.trace.length<=100) (S:Ah) (hS:S.visits=vs):bL S (j:Int)=some w.trace:=by
 have key:∃ r,bL S (j:Int)=some r/\r=w.trace:=by
  unfold bL;rw [hS];refine qFX (P:=λo=>o=w.trace.reverse) (kS (λn s=>∃ (q:Nat) (u:Visit'),s.1=(q:Int)/\W[q]?=some u/\n=u.trace.length/\s.2++u.trace.reverse=w.trace.reverse/\n<=100) ?_ (n:=w.trace.length) (by omega) ⟨j,w,rfl,hw,rfl,rfl,hl⟩) ?_
  ·rintro n ⟨s1,s2⟩ ⟨q,u,h1,h2,h3,h4,h5⟩;dsimp only at h1 h4;subst h1;obtain⟨v,v1,v2,v3,v4⟩:=h.at h2;dsimp only;rw [aT v1];rcases v4 with ⟨v4,v5⟩|⟨b,w',v4,v5,v6⟩
   ·left;rw [if_neg (by omega)];refine⟨_,rfl,?_⟩;rw [v5] at h4;simpa using h4
   right
   have hlen:s2.length<=100:=by
    have:=congrArg List.length h4;simp only [zQL,List.length_reverse] at this;omega
   rw [if_pos (by omega),aT v1,aB (by simp;omega),aT v1,v4];refine⟨_,rfl,w'.trace.length,?_,b,w',rfl,v5,rfl,?_,?_⟩
   ·rw [h3,v6];simp
   ·rw [v6] at h4;simpa using h4
   have:=congrArg List.length v6;simp only [zQL,List.length_cons,List.length_nil] at this;omega
  intro o ho;subst ho;rw [aB (by simp;omega)];refine⟨_,rfl,?_⟩;unfold vU;rw [List.reverse_reverse]
 obtain⟨r,h1,rfl⟩:=key;exact h1
def eA (W:List Visit'):List (BA×Bool):=W.map λw=>(mO w.m,true)
theorem mU (s : BA) : ∀ W : List Visit', dJ (eA W) s = if (W.any fun v => decide (mO v.m = s)) = true then some true else none
 | []=>rfl
 | w :: r=>by
  have ih:=mU s r;unfold eA dJ at *;rw [List.map_cons,List.find?_cons,List.any_cons];by_cases h:mO w.m=s
  ·simp [h]
  simp only [h,decide_false,Bool.false_or];exact ih
section
variable {p:Go.Proofs.YtciilodpnepdbaaDoor.Program} {I:List (List Bool)} {d:Int} {viol:Machine->Bool}
theorem qX (hs:Slim p) {m:Machine} {k:Int} (hf:cS p m=true) (hc:∀ c∈m.counts,c<=k) (hk:k<=16):MSm m:=by
 obtain⟨hz,hvl,hcl,hcnt⟩:=hJ hf;have:=cE hz;have:=hs.Ac;exact⟨by omega,by omega,λc hm=>⟨yT hf c hm,by have:=hc c hm;omega⟩⟩
theorem zW (hs:Slim p) (hd:d<=16) {W:List Visit'} (h:Inv26 p I d viol W) {w:Visit'} (hw:w∈W):MSm w.m:=by
 obtain⟨f1,f2,f3,f4⟩:=h.fits w hw;exact qX hs f1 f3 (by omega)
theorem qBX {m m':Machine} (h:cS p m=true) (h':cS p m'=true):m.vars.length=m'.vars.length:=by
 have h1:=hJ h;have h2:=hJ h';omega
theorem rB (hs:Slim p) (hd:d<=16) {W:List Visit'} (h:Inv26 p I d viol W) {w:Visit'} (hw:w∈W) {m:Machine} (hm:MSm m) (hf:cS p m=true) (hh:m.halted=false):mO w.m=mO m↔w.m=m:=by
 obtain⟨f1,f2,f3,f4⟩:=h.fits w hw;exact⟨λhe=>qHV (zW hs hd h hw) hm (by rw [f2,hh]) (qBX f1 hf) he,λhe=>by rw [he]⟩
theorem vM (hs:Slim p) (hd:d<=16) {W:List Visit'} (h:Inv26 p I d viol W) {m:Machine} (hm:MSm m) (hf:cS p m=true) (hh:m.halted=false):(dJ (eA W) (mO m)).getD false=iI W m:=by
 rw [mU]
 have:(W.any λv=>decide (mO v.m=mO m))=iI W m:=by
  unfold iI;rw [Bool.eq_iff_iff,zQU,zQU];constructor
  ·rintro⟨v,h1,h2⟩;exact⟨v,h1,decide_eq_true ((rB hs hd h h1 hm hf hh).1 (of_decide_eq_true h2))⟩
  rintro⟨v,h1,h2⟩;exact⟨v,h1,decide_eq_true ((rB hs hd h h1 hm hf hh).2 (of_decide_eq_true h2))⟩
 rw [this];cases iI W m<;>rfl
theorem qG (hs:Slim p) (hd:d<=16) {W:List Visit'} (h:Inv26 p I d viol W):((eA W).map (·.1)).Nodup:=by
 rw [oE];intro a b hab hb he;unfold eA at hb he;simp only [zQC] at hb;simp only [zQP] at he;have h1:=zQR (l:=W) (show a < W.length by omega);have h2:=zQR hb;rw [h1,h2] at he;simp only [Option.map_some,Option.some.injEq] at he;obtain⟨f1,f2,f3,f4⟩:=h.fits _ (List.getElem_mem hb);exact h.nd a b _ _ hab h1 h2 ((rB hs hd h (List.getElem_mem _) (zW hs hd h (List.getElem_mem hb)) f1 f2).1 he)
theorem qGP {W:List Visit'} {vs:List Ad} {m:Machine} (hm:MSm m) (hn:((eA W).map (·.1)).Nodup) (hk:(dJ (eA W) (mO m)).getD false=false) (hl:vs.length<=1000) (q:Go.Proofs.YtciilodpnepdbaaDoor.Program) (b k s:Int) (t:List Int):aY ⟨q,I,d,vs,eA W⟩ m b k s=some ⟨q,I,d,vs++[⟨m,b,k,s⟩],eA (W++[⟨m,t⟩])⟩:=by
 unfold aY;rw [qGM hm,aA];dsimp only;rw [aB hn,aB (by simp;omega)]
 have:dJ (eA W) (mO m)=none:=by
  rw [mU] at hk ⊢;split
  ·rename_i h;rw [if_pos h] at hk;cases hk
  rfl
 rw [qED this];simp [eA]
theorem zC (hs:Slim p) (I:List (List Bool)) (d:Int):cO p I d=some (if dI p=0/\I.length<=16/\0<=d/\d<=16 then (some ⟨p,I,d,[],[]⟩,0) else (none,1)):=by
 unfold cO;rw [oD hs.ok,aA];by_cases h1:dI p=0
 ·rw [if_pos h1];by_cases h2:I.length<=16
  ·rw [if_neg (by omega)];by_cases h3:d < 0
   ·rw [if_pos h3,aA,if_pos rfl,if_neg (by omega)]
   rw [if_neg h3,aA];by_cases h4:16 < d
   ·rw [decide_eq_true h4,if_pos rfl,if_neg (by omega)]
   rw [decide_eq_false h4,if_neg (by simp),if_pos ⟨h1,h2,by omega,by omega⟩]
  rw [if_pos (by omega),aA,if_pos rfl,if_neg (by omega)]
 rw [if_neg h1,aA,if_pos rfl,if_neg (λh=>h1 h.1)]
end
end Go.Proofs.YtciilodpnepdbaaDoor
set_option linter.unusedVariables false
set_option linter.unusedSimpArgs false
set_option maxHeartbeats 1000000
set_option maxRecDepth 100000
namespace Go.Proofs.YtciilodpnepdbaaDoor
open Go Go.TL
theorem zA {α σ ρ:Type} {m:Option (α ⊕ (σ ⊕ ρ))} {k:α->Option (σ ⊕ ρ)} {A:ρ->Prop} {B:σ->Prop} {P:α ⊕ (σ ⊕ ρ)->Prop} (h:∃ o,m=some o/\P o) (hl:∀ a,P (.inl a)->(∃ o,k a=some (.inr o)/\A o)\/(∃ s',k a=some (.inl s')/\B s')) (hr:∀ b,P (.inr b)->(∃ o,b=.inr o/\A o)\/(∃ s',b=.inl s'/\B s')):(∃ o,cH m k=some (.inr o)/\A o)\/(∃ s',cH m k=some (.inl s')/\B s'):=by
 obtain⟨o,rfl,ho⟩:=h
 cases o with
 | inl a=>exact hl a ho
 | inr b=>
  rcases hr b ho with ⟨o,rfl,h2⟩|⟨s',rfl,h2⟩
  ·exact .inl ⟨_,rfl,h2⟩
  exact .inr ⟨_,rfl,h2⟩
theorem qFE {p:Go.Proofs.YtciilodpnepdbaaDoor.Program} {I:List (List Bool)} {viol:Machine->Bool} {w:Visit'} {W:List Visit'} {k:Nat} (hk:k < I.length):inW p viol w (I.drop k) k W=match oU p viol W w k (I.getD k []) with
  | .cont W'=>inW p viol w (I.drop (k+1)) (k+1) W'
  | .fail=>.fail
  | .found W'=>.found W':=by
 rw [List.drop_eq_getElem_cons hk,inW,zQD,zQR hk];rfl
theorem qHX {p:Go.Proofs.YtciilodpnepdbaaDoor.Program} {I:List (List Bool)} {viol:Machine->Bool} {w:Visit'} {W:List Visit'} {k:Nat} (hk:I.length<=k):inW p viol w (I.drop k) k W=.cont W:=by
 rw [List.drop_eq_nil_of_le hk];rfl
theorem qEL {p:Go.Proofs.YtciilodpnepdbaaDoor.Program} {I:List (List Bool)} {d:Int} {viol:Machine->Bool} {W:List Visit'} {i:Nat} {w:Visit'} (h:Inv26 p I d viol W) (hw:W[i]?=some w) {d':Int} (hd:d'<=(w.trace.length:Int)):∀ (n j:Nat),i<=j->nL p I d' viol n j W=.cont W:=by
 intro n
 induction n with
 | zero=>intro j _;rfl
 | succ n ih=>
  intro j hj;unfold nL
  cases hx:W[j]? with
  | none=>rfl
  | some x=>
   have hc2:(w.trace.length:Nat)<=x.trace.length:=by
    rcases Nat.eq_or_lt_of_le hj with e|e
    ·subst e;rw [hw] at hx;cases hx;exact zQW _
    exact jA (h.rep w (zQM hw)).2 (h.rep x (zQM hx)).2 (Nat.le_of_lt (h.inc i j w x e hw hx))
   dsimp only;rw [if_neg (by omega)];exact ih (j+1) (by omega)
theorem qEK {p:Go.Proofs.YtciilodpnepdbaaDoor.Program} {I:List (List Bool)} {d:Int} {viol:Machine->Bool} {W:List Visit'} {n i:Nat} {w:Visit'} (hw:W[i]?=some w) (hd:(w.trace.length:Int) < d):nL p I d viol (n+1) i W=match inW p viol w I 0 W with
  | .cont W'=>nL p I d viol n (i+1) W'
  | .fail=>.fail
  | .found W'=>.found W':=by
 rw [nL,hw];dsimp only;refine (if_pos hd).trans ?_;cases inW p viol w I 0 W<;>rfl
abbrev FSt:=List Aa×List Int×Bool×Int×List BA×Int×List Ae×List (List Bool)×Int×List (BA×Bool)×List Ad
def stF (p:Go.Proofs.YtciilodpnepdbaaDoor.Program) (l:List Aa) (I:List (List Bool)) (d:Int) (W:List Visit') (vs:List Ad):FSt:=(l,[],false,0,p.names,p.inputs,p.Ac,I,d,eA W,vs)
def qGL (r:Bool×FSt):Res26->Prop
 | .cont W=>r.1=true
 | .fail=>r.1=false/\r.2.2.1=[]/\r.2.2.2.1=false/\r.2.2.2.2.1=16
 | .found W=>∃ W0 T,W=W0++[T]/\r.1=false/\r.2.2.1=T.trace/\r.2.2.2.1=true/\r.2.2.2.2.1=0
section
variable {p:Go.Proofs.YtciilodpnepdbaaDoor.Program} {l:List Aa} {I:List (List Bool)} {d:Int}
theorem xT (s0:List Aa) (s1:List Int) (s2:Bool) (s3:Int) (s4:List BA) (s5:Int) (s6:List Ae) (s7:List (List Bool)) (s8:Int) (s9:List (BA×Bool)) (s10:List Ad):bJ s0 s1 s2 s3 s4 s5 s6 s7 s8 s9 s10 (-1) 16=some (false,s0,[],false,16,s4,s5,s6,s7,s8,s9,s10):=rfl
theorem sN (h:Ok26 p l I) {W:List Visit'} {vs:List Ad} (hv:VR vs W) {j:Nat} {w:Visit'} (hw:W[j]?=some w) (hl:w.trace.length<=100) (s1:List Int) (s2:Bool) (s3:Int) (s4:List BA) (s5:Int) (s6:List Ae) (s7:List (List Bool)) (s8:Int) (s9:List (BA×Bool)) {z:Int} (hz:z=(j:Int)):
  bJ l s1 s2 s3 s4 s5 s6 s7 s8 s9 vs z 0=some (if cZ l w.m=true then (false,l,w.trace,true,0,s4,s5,s6,s7,s8,s9,vs) else (true,l,s1,s2,s3,s4,s5,s6,s7,s8,s9,vs)):=by
 subst hz;obtain⟨v,v1,v2,v3,v4⟩:=hv.at hw;unfold bJ;rw [if_pos rfl,aT v1,v2,qGN w.m h.len h.obs,aA];have hh:=yM l w.m;by_cases hb:cZ l w.m=true
 ·rw [hb] at hh;rw [if_pos (of_decide_eq_true hh),if_pos hb,qGH hv hw hl _ rfl,aA]
 rw [Bool.not_eq_true] at hb;rw [hb] at hh;rw [if_neg (of_decide_eq_false hh),if_neg (by rw [hb];simp)]
def PostI (p:Go.Proofs.YtciilodpnepdbaaDoor.Program) (l:List Aa) (I:List (List Bool)) (d:Int) (i:Nat) (w:Visit') (o:FSt ⊕ ((Int×FSt) ⊕ (Bool×FSt))):Res26->Prop
 | .cont W=>∃ vs,o=.inl (stF p l I d W vs)/\VR vs W/\At26 p I d (cZ l) W i I.length/\W[i]?=some w
 | .fail=>∃ r,o=.inr (.inr r)/\qGL r .fail
 | .found W=>∃ r,o=.inr (.inr r)/\qGL r (.found W)
theorem vB (h:Ok26 p l I) (hc:dI p=0) (hI:I.length<=16) (h0:0<=d) (h16:d<=16):∃ r,dE bJ l [] false 0 p.names p.inputs p.Ac I d [] []=some r/\qGL r (bfs p I d (cZ l)):=by
 have hs:=h.slim;obtain⟨f1,f2,f3⟩:=mX hc;have hm0:MSm (bA p):=qX hs (k:=0) f1 (λc hc=>by rw [f3 c hc];omega) (by omega);have hadd0:aY ⟨p,I,d,[],eA []⟩ (bA p) (-1) 0 0=some ⟨p,I,d,[⟨bA p,-1,0,0⟩],eA [⟨bA p,[]⟩]⟩:=qGP (I:=I) (d:=d) (W:=[]) (vs:=[]) hm0 (by simp [eA]) rfl (by simp) p (-1) 0 0 [];have eta:(⟨p.names,p.inputs,p.Ac⟩:Go.Proofs.YtciilodpnepdbaaDoor.Program)=p:=rfl;unfold dE;rw [eta,oC hs.ok,aA,show ([]:List (BA×Bool))=eA [] from rfl,hadd0,aA];rw [sN h (VR.one (bA p)) (j:=0) (w:=⟨bA p,[]⟩) rfl (by simp) _ _ _ _ _ _ _ _ _ (z:=0) rfl,aA];unfold bfs;by_cases hv:cZ l (bA p)=true
 ·rw [if_pos hv,if_pos hv];exact⟨_,rfl,[],⟨bA p,[]⟩,rfl,rfl,rfl,rfl,rfl⟩
 rw [if_neg hv,if_neg hv];dsimp only;rw [if_pos rfl];have hat:=qB (I:=I) (viol:=cZ l) hc h0 (by simpa using hv);refine kS (λn s=>∃ (i:Nat) (W:List Visit') (vs:List Ad),s=((i:Int),stF p l I d W vs)/\VR vs W/\At26 p I d (cZ l) W i 0/\n+i=501/\nL p I d (cZ l) n i W=nL p I d (cZ l) 501 0 [⟨bA p,[]⟩]) ?_ (n:=501) (by omega) ⟨0,_,_,rfl,VR.one _,hat,rfl,rfl⟩;generalize nL p I d (cZ l) 501 0 [⟨bA p,[]⟩]=R;rintro n _ ⟨i,W,vs,rfl,hvr,ha,hn,hR⟩;unfold stF;dsimp only
 cases hw:W[i]? with
 | none=>
  left;have hle:=List.getElem?_eq_none_iff.1 hw;rw [if_neg (by rw [hvr.len];omega)];refine⟨_,rfl,?_⟩
  cases n with
  | zero=>rw [<- hR];rfl
  | succ n=>rw [<- hR];unfold nL;rw [hw];rfl
 | some w=>
  have hlt:=(zQQ.1 hw).1;have hlen:=ha.inv.len;obtain⟨v,v1,v2,v3,v4⟩:=hvr.at hw;rw [if_pos (by rw [hvr.len];omega),aT v1,v2,v3];obtain⟨n,rfl⟩:∃ n',n=n'+1:=⟨n - 1,by omega⟩;by_cases hd:d<=(w.trace.length:Int)
  ·left;rw [if_pos hd];refine⟨_,rfl,?_⟩;rw [<- hR,qEL ha.inv hw hd _ _ (zQW _)];rfl
  rw [if_neg hd];have hd':(w.trace.length:Int) < d:=by omega
  rw [qEK hw hd'] at hR;obtain⟨g1,g2,g3,g4⟩:=ha.inv.fits w (zQM hw);refine zA (P:=λo=>PostI p l I d i w o (inW p (cZ l) w I 0 W)) (kS (λm s=>∃ (k:Nat) (W':List Visit') (vs':List Ad),s=((k:Int),stF p l I d W' vs')/\VR vs' W'/\At26 p I d (cZ l) W' i k/\W'[i]?=some w/\m+k=I.length/\inW p (cZ l) w (I.drop k) k W'=inW p (cZ l) w I 0 W) ?_ (n:=I.length) (by omega) ⟨0,W,vs,rfl,hvr,ha,hw,rfl,rfl⟩) ?_ ?_
  ·generalize inW p (cZ l) w I 0 W=T;rintro m _ ⟨k,W',vs',rfl,hvr',ha',hw',hk,hT⟩;unfold stF;dsimp only;by_cases hkI:k < I.length
   ·have hx:=zQR hkI;have hgd:I.getD k []=I[k]:=by rw [zQD,hx];rfl
    obtain⟨s1,s2⟩:=kH (I.getD k []) g1 g2;have hm:MSm (bT p w.m (I.getD k [])):=qX hs (k:=(w.trace.length:Int)+1) s1 (zL _ g1 g2 g3) (by omega);have hlen':=ha'.inv.len;rw [if_pos (by omega),aT hx,eta,qGJ hs (zY hs g1),aA,<- hgd,qGM hm,aA,aB (qG hs h16 ha'.inv),vM hs h16 ha'.inv hm s1 s2];rw [qFE hkI] at hT;unfold oU at hT;by_cases hn:iI W' (bT p w.m (I.getD k []))=true
    ·rw [if_pos hn] at hT;rw [if_pos hn,aB (bO hkI (by omega))];right;have:=tP ha' hw' hkI hd';unfold oU at this;rw [if_pos hn] at this;exact⟨_,rfl,m - 1,by omega,k+1,W',vs',by push_cast;rfl,hvr',this.1,hw',by omega,hT⟩
    rw [if_neg hn] at hT ⊢;have hvl:=hvr'.len;by_cases hf:500<=W'.length
    ·rw [if_pos hf] at hT;rw [if_pos (by omega),xT,aA];left;rw [<- hT];exact⟨_,rfl,_,rfl,rfl,rfl,rfl,rfl⟩
    rw [if_neg hf] at hT
    have hb1:(dJ (eA W') (mO (bT p w.m (I.getD k [])))).getD false=false:=by
     rw [vM hs h16 ha'.inv hm s1 s2];simpa using hn
    rw [if_neg (by omega),aB (by unfold I64;omega),qGP (I:=I) (d:=d) hm (qG hs h16 ha'.inv) hb1 (by omega) p (i:Int) (k:Int) ((w.trace.length:Int)+1) (w.trace++[(k:Int)]),aA];have hv2:=hvr'.app (k:=k) hw' (bT p w.m (I.getD k []));have hgl:(W'++[(⟨bT p w.m (I.getD k []),w.trace++[(k:Int)]⟩:Visit')])[W'.length]?=some ⟨bT p w.m (I.getD k []),w.trace++[(k:Int)]⟩:=by simp
    dsimp only;rw [aB (by unfold I64;simp only [zQL,List.length_cons,List.length_nil];omega),sN h hv2 hgl (by simp only [zQL,List.length_cons,List.length_nil];omega) _ _ _ _ _ _ _ _ _ (by simp only [zQL,List.length_cons,List.length_nil];omega),aA];have hst:=tP ha' hw' hkI hd';unfold oU at hst;rw [if_neg hn,if_neg hf] at hst;dsimp only at hT hst ⊢;by_cases hb:cZ l (bT p w.m (I.getD k []))=true
    ·rw [if_pos hb] at hT;rw [if_pos hb];left;rw [<- hT];exact⟨_,rfl,_,rfl,_,_,rfl,rfl,rfl,rfl,rfl⟩
    rw [if_neg hb] at hT hst;rw [if_neg hb];dsimp only;rw [if_pos rfl,aB (bO hkI (by omega))];right;exact⟨_,rfl,m - 1,by omega,k+1,_,_,by push_cast;rfl,hv2,hst.1,hst.2,by omega,hT⟩
   left;rw [if_neg (by omega)];rw [qHX (by omega)] at hT;have:k=I.length:=by omega
   subst this;rw [<- hT];exact⟨_,rfl,vs',rfl,hvr',ha',hw'⟩
  ·rintro a ha2;have hin:=qFD (i:=i) hd' I 0 W rfl (Nat.zero_le _) ha hw
   cases hT:inW p (cZ l) w I 0 W with
   | cont W'=>
    rw [hT] at ha2 hR;obtain⟨vs',e,hv2,ha',hw'⟩:=ha2;cases e;right;unfold stF;dsimp only;rw [aB (bO hlt (by omega))];exact⟨_,rfl,n,by omega,i+1,W',vs',by push_cast;rfl,hv2,uG ha' hw' (.inl rfl),by omega,hR⟩
   | fail=>rw [hT] at ha2;obtain⟨r,e,_⟩:=ha2;cases e
   | found W'=>rw [hT] at ha2;obtain⟨r,e,_⟩:=ha2;cases e
  rintro b hb2
  cases hT:inW p (cZ l) w I 0 W with
  | cont W'=>rw [hT] at hb2;obtain⟨vs',e,_⟩:=hb2;cases e
  | fail=>
   rw [hT] at hb2 hR;obtain⟨r,e,h5⟩:=hb2;cases e;exact .inl ⟨_,rfl,by rw [<- hR];exact h5⟩
  | found W'=>
   rw [hT] at hb2 hR;obtain⟨r,e,h5⟩:=hb2;cases e;exact .inl ⟨_,rfl,by rw [<- hR];exact h5⟩
def tM (W:List Visit'):List Int:=(W.getLast?.map λw=>w.trace).getD []
def wV (p:Go.Proofs.YtciilodpnepdbaaDoor.Program) (I:List (List Bool)) (d:Int) (viol:Machine->Bool):List Int×Bool×Int:=
 if dI p=0/\I.length<=16/\0<=d/\d<=16 then
  match bfs p I d viol with
  | .cont _=>([],false,0)
  | .fail=>([],false,16)
  | .found W=>(tM W,true,0)
 else ([],false,1)
theorem qIT (h:Ok26 p l I):cL p l I d=some (wV p I d (cZ l)):=by
 unfold cL wV;rw [zC h.slim,aA];by_cases hc:dI p=0/\I.length<=16/\0<=d/\d<=16
 ·rw [if_pos hc,if_pos hc];obtain⟨r,h1,h2⟩:=vB (d:=d) h hc.1 hc.2.1 hc.2.2.1 hc.2.2.2;dsimp only;rw [if_pos rfl,h1,aA];obtain⟨r0,r1,r2,r3,r4,r5,r6,r7,r8,r9,r10,r11⟩:=r
  cases hb:bfs p I d (cZ l) with
  | cont W=>
   rw [hb] at h2;have h3:r0=true:=h2;subst h3;rfl
  | fail=>
   rw [hb] at h2;obtain⟨e1,e2,e3,e4⟩:=h2;dsimp only at e1 e2 e3 e4;subst e1 e2 e3 e4;rfl
  | found W=>
   rw [hb] at h2;obtain⟨W0,T,e0,e1,e2,e3,e4⟩:=h2;dsimp only at e1 e2 e3 e4;subst e0 e1 e2 e3 e4;dsimp only;rw [if_neg Bool.false_ne_true];unfold tM;rw [List.getLast?_concat];rfl
 rw [if_neg hc,if_neg hc];rfl
end
section
variable {p:Go.Proofs.YtciilodpnepdbaaDoor.Program} {l:List Aa} {I:List (List Bool)} {d:Int}
end
abbrev CSt:=Int×Int×List BA×Int×List Ae×List (List Bool)×Int×List (BA×Bool)×List Ad
def stC (p:Go.Proofs.YtciilodpnepdbaaDoor.Program) (I:List (List Bool)) (d:Int) (W:List Visit') (vs:List Ad):CSt:=(0,0,p.names,p.inputs,p.Ac,I,d,eA W,vs)
section
variable {p:Go.Proofs.YtciilodpnepdbaaDoor.Program} {I:List (List Bool)} {d:Int}
end
section
variable {p:Go.Proofs.YtciilodpnepdbaaDoor.Program} {l:List Aa} {I:List (List Bool)} {d:Int} {viol:Machine->Bool}
inductive Ends26 (p:Go.Proofs.YtciilodpnepdbaaDoor.Program) (I:List (List Bool)) (d:Int) (viol:Machine->Bool):List Int×Bool×Int->Prop where
 | bad:Ends26 p I d viol ([],false,1)
 | full:Ends26 p I d viol ([],false,16)
 | none (W:List Visit') (h:Done26 p I d viol W) (h0:0<=d) (h16:d<=16):Ends26 p I d viol ([],false,0)
 | found (T:Visit') (h:Least26 p I d viol T) (h0:0<=d) (h16:d<=16):Ends26 p I d viol (T.trace,true,0)
theorem vG (W:List Visit') (T:Visit'):tM (W++[T])=T.trace:=by
 unfold tM;rw [List.getLast?_concat];rfl
theorem qBZ:Ends26 p I d viol (wV p I d viol):=by
 unfold wV;by_cases hc:dI p=0/\I.length<=16/\0<=d/\d<=16
 ·rw [if_pos hc]
  cases hb:bfs p I d viol with
  | cont W=>exact .none W (qFY hc.1 hc.2.2.1 hb) hc.2.2.1 hc.2.2.2
  | fail=>exact .full
  | found W=>
   obtain⟨W0,T,e,hl⟩:=qCH hc.1 hc.2.2.1 hb;subst e;dsimp only;rw [vG];exact .found T hl hc.2.2.1 hc.2.2.2
 rw [if_neg hc];exact .bad
end
theorem qHM {p0:Go.Proofs.YtciilodpnepdbaaDoor.Program} {p1:List Aa} {p2:List (List Bool)} (w0:Go.Proofs.YtciilodpnepdbaaDoor.Program.Wf p0) (w1:p1.length<=reachBytes/\∀ y∈p1,Aa.Wf y) (w2:p2.length<=reachBytes/\∀ y∈p2,y.length<=reachBytes/\∀ z∈y,True) {k1:Nat} {r:List D} (hb:D.bulks (p0.enc :: .sl k1 (p1.map Aa.enc) :: r)<=1048576):Ok26 p0 p1 p2:=by
 obtain⟨h1,h2⟩:=rO (b:=.bool true) hb;obtain⟨h3,h4⟩:=rO (b:=.bool true) h2;obtain⟨h5,h6⟩:=obs26 w1 h3;exact⟨qAY w0 h1,h5,h6,by have:=yK w2.1;unfold hP;omega⟩
end Go.Proofs.YtciilodpnepdbaaDoor
