/- Texts of this proof, joined, without what it does not use. No condition. -/
import Derived.Shelf.Slices.Reverse
import Derived.Test.YtciilodpnepdbaaDoorQt

set_option maxHeartbeats 8000000
set_option linter.unusedSimpArgs false
set_option linter.unusedVariables false
set_option maxRecDepth 20000
namespace Go.Proofs.YtciilodpnepdbaaDoor
open Go Go.TL Go.Sort Go.Shelf Go.RowKit Go.Lib Go.Proofs.Tryd
def zJ:Go.Shelf.Ren:=⟨fun|112=>44|n=>n,fun|28=>30|3=>3|4=>4|0=>0|n=>n,fun|n=>n⟩
theorem qFF:Go.Proofs.Lays.n112 TP zJ where
 mixed:=by kernel_rfl
 f112:=func44.trans (congrArg some (by kernel_rfl))
 t0:=Tryd.underlying0
 a0:=Tryd.isAgg0
 z0:=Tryd.sizeOf0
 v0:=Tryd.zeroValue0
 t3:=Tryd.underlying3
 a3:=Tryd.isAgg3
 z3:=Tryd.sizeOf3
 v3:=Tryd.zeroValue3
 t4:=Tryd.underlying4
 a4:=Tryd.isAgg4
 z4:=Tryd.sizeOf4
 v4:=Tryd.zeroValue4
 t28:=Tryd.underlying30
 a28:=Tryd.isAgg30
 z28:=Tryd.sizeOf30
 v28:=Tryd.zeroValue30
theorem lE (xs:List Int) (hlen:xs.length<=1000000000):Ret TP 44 [.flat 3 1 (xs.map (D.int .i64))] (λ_=>false) [.msl 0 1 0 xs.length] (.tup []) [.flat 3 1 ((xE xs).map (D.int .i64))]:=
 qFG 3 (λ_=>false) xs (bA rfl) (by omega) (λp cap w=>Any.slices_Reverse_int_empty qFF p cap w) (λblk off cap zs w hH hl=>Any.slices_Reverse_int qFF blk off cap zs w hH hl)
end Go.Proofs.YtciilodpnepdbaaDoor
set_option maxHeartbeats 8000000
set_option linter.unusedSimpArgs false
set_option linter.unusedVariables false
set_option maxRecDepth 20000
namespace Go.Proofs.YtciilodpnepdbaaDoor
open Go Go.TL Go.Proofs.Tryd
theorem rR:∀ (fu:Nat) {p0:Ac} {p1:Int} {r:Int} (hm:cV fu p0 p1=some r),RetN TP 36 [p0.enc,.int .i64 p1] (.int .i64 r):=by
 intro fu
 induction fu with
 | zero=>
  intro p0 p1 r hm;unfold cV at hm;cases hm
 | succ fu ih=>
  intro p0 p1 r hm;refine .unit (aN (bA Q) func36 Q ntmps36 Q Q (λwX gX=>?_)) Q;unfold cV at hm;refine WN [0,1] Q Q (aR 1 Q (cQ 0 Q Q Q (aJ 7 Q (bD hm (λn1=>([(5,.d (.int .i64 n1))])) (λn1=>[]) [5] [] Q (λz2 hm=>?_) (λn1 hm=>?_)))))
  ·refine bY 5 Q (bL hm (λ(n5,i6)=>([(5,.d (.int .i64 n5)),(6,.d (.int .i64 i6))])) (λ(n5,i6)=>[]) [5,6] [1,2] [0] Q k0 Q Q Q Q Q (λs z7 hm hz7=>?_));obtain⟨n5,i6⟩:=s;refine WN [1,2,5,6] Q Q (bY 1 Q (iZ [(16,.d (.bool (((decide (i6 < (p0.args.length:Int)))&&(decide (n5<=p1))))))] [16] [1,2,5,6] Q ?_ ?_))
   ·refine aR 4 Q (SX Q Q (aQ TK Q Q Q) (aG 1 Q (SB TK Q (λq8 hq8=>?_))));cases q8
    ·refine aF 5 Q ?_;exact⟨[0],Q,k0,cH (aX (aY (by first|(simp [hq8];done)|(simp only [hq8];simp))) Q) Q⟩
    refine aF 5 Q ?_;exact⟨[0],Q,k0,cH (aX (aY (by first|(simp [hq8];done)|(simp only [hq8];simp))) Q) Q⟩
   refine WN [1,2,5,6,16] Q Q (bS hm Q (λh9 hm=>?_) (λh9 hm=>?_))
   ·exact aO 9 Q (VE hm λe10 he10 hm=>SX Q Q (mW TK Q Q Q Q he10 (Ac.Ag _)) (aG 3 Q (GE hm λg11 hm=>SX Q Q (cA Q Q Q Q g11) (c_N hm (ih ·) Q Q Q Q λr12 hm=>GE hm λg13 hm=>SX Q Q (cA Q Q Q Q g13) (aG 6 Q (GE hm λg14 hm=>SX Q Q (cA Q Q Q Q g14) (aF 2 Q (bT [0] hm Q Q))))))))
   refine aI 2 Q (IE hm λv15 hm hz=>?_);rw [hz7 _ hz] at hm;exact WX (bG 1 Q (bH [0] hm Q Q))
  exact WN [5] Q Q (aI 6 Q (aP hm Q))
theorem tG {p0:Ac} {p1:Int} {r:Int} (hm:jD p0 p1=some r):RetN TP 36 [p0.enc,.int .i64 p1] (.int .i64 r):=rR aU hm
theorem xH {p0:Program} {p1:Int} {r:Bool} (hm:jT p0 p1=some r):RetN TP 19 [p0.enc,.int .i64 p1] (.bool (r)):=by
 refine .unit (aN (bA Q) func19 Q ntmps19 Q Q (λwX gX=>?_)) Q;unfold jT at hm;refine WN [0,1] Q Q (aR 1 Q (cQ 0 Q Q Q (aJ 4 Q ?_)));refine iZ [(16,.d (.bool (((decide (p1 < (p0.names.length:Int)))||(decide ((40:Int) < (p0.Ab.length:Int)))))))] [16] [2] Q ?_ ?_
 ·refine aR 3 Q (SX Q Q (aQ TK Q Q Q) (aG 2 Q (SB TK Q (λq1 hq1=>?_))));cases q1
  ·refine aG 2 Q (SX Q Q (aQ TK Q Q Q) (aF 3 Q ?_));exact⟨[0],Q,k0,cH (aX (aY (by first|(simp [hq1];done)|(simp only [hq1];simp))) Q) Q⟩
  refine aF 6 Q ?_;exact⟨[0],Q,k0,cH (aX (aY (by first|(simp [hq1];done)|(simp only [hq1];simp))) Q) Q⟩
 refine WN [2,16] Q Q (bS hm Q (λh2 hm=>?_) (λh2 hm=>?_))
 ·exact aI 6 Q (aP hm Q)
 refine bC 2 Q (bM hm (λ_=>[]) (λ_=>[]) [] [] Q (λz3 hm hz3=>?_) (λj hm=>?_))
 ·refine bY 5 Q (bL hm (λi5=>([(5,.d (.int .i64 i5))])) (λi5=>[]) [5] [2] [0] Q k0 Q Q Q Q Q (λi5 z6 hm hz6=>WN [2,5] Q Q (aR 5 Q (SX Q Q (aQ TK Q Q Q) (aJ 3 Q (bO hm Q (λh7 hm=>?_) (λh7 hm=>?_)))))))
  ·refine aO 8 Q (VE hm λe8 he8 hm=>SX Q Q (dZ TK Q Q Q Q he8) (aG 2 Q (c_N hm (tG ·) Q Q Q Q λr9 hm=>aJ 3 Q (bO hm Q (λh10 hm=>?_) (λh10 hm=>?_)))))
   ·refine bC 4 Q (WN [4] Q Q (aI 3 Q (IE hm λv11 hm hz=>?_)));rw [hz6 _ hz] at hm;refine WR (bG 1 Q (IE hm λv12 hm hz=>?_));rw [hz3 _ hz] at hm;exact WR (aP hm Q)
   exact aO 5 Q (GE hm λg13 hm=>SX Q Q (cA Q Q Q Q g13) (aF 2 Q (bT [0] hm Q Q)))
  refine aI 2 Q (IE hm λv14 hm hz=>?_);rw [hz6 _ hz] at hm;exact WX (bG 1 Q (bT [0] hm Q Q))
 exact WN [] Q Q (aI 5 Q (aP hm Q))
theorem tJ:∀ (fu:Nat) {p0:Ac} {r:Int} (hm:dW fu p0=some r),RetN TP 20 [p0.enc] (.int .i64 r):=by
 intro fu
 induction fu with
 | zero=>
  intro p0 r hm;unfold dW at hm;cases hm
 | succ fu ih=>
  intro p0 r hm;refine .unit (aN (bA Q) func20 Q ntmps20 Q Q (λwX gX=>?_)) Q;unfold dW at hm;refine WN [0] Q Q (aR 1 Q (cQ 0 Q Q Q (aJ 7 Q (bD hm (λn1=>([(3,.d (.int .i64 n1))])) (λn1=>[]) [3] [] Q (λz2 hm=>?_) (λn1 hm=>?_)))))
  ·refine bY 5 Q (bL hm (λ(n5,i6)=>([(3,.d (.int .i64 n5)),(4,.d (.int .i64 i6))])) (λ(n5,i6)=>[]) [3,4] [1] [0] Q k0 Q Q Q Q Q (λs z7 hm hz7=>?_));obtain⟨n5,i6⟩:=s;refine WN [1,3,4] Q Q (aR 5 Q (SX Q Q (aQ TK Q Q Q) (aJ 3 Q (bO hm Q (λh8 hm=>?_) (λh8 hm=>?_)))))
   ·exact aO 9 Q (VE hm λe9 he9 hm=>SX Q Q (mW TK Q Q Q Q he9 (Ac.Ag _)) (aG 1 Q (c_N hm (ih ·) Q Q Q Q λr10 hm=>GE hm λg11 hm=>SX Q Q (cA Q Q Q Q g11) (aG 6 Q (GE hm λg12 hm=>SX Q Q (cA Q Q Q Q g12) (aF 2 Q (bT [0] hm Q Q)))))))
   refine aI 2 Q (IE hm λv13 hm hz=>?_);rw [hz7 _ hz] at hm;exact WX (bG 1 Q (bH [0] hm Q Q))
  exact WN [3] Q Q (aI 6 Q (aP hm Q))
theorem oA {p0:Ac} {r:Int} (hm:fZ p0=some r):RetN TP 20 [p0.enc] (.int .i64 r):=tJ aU hm
theorem xG {p0:Program} {p1:(List Aa)} {p2:(List (List Bool))} {r:Bool} (hm:jS p0 p1 p2=some r):RetN TP 8 [p0.enc,.sl 4 (p1.map Aa.enc),.sl 1 (p2.map (λ(l:List Bool)=>D.sl 1 (l.map D.bool)))] (.bool (r)):=by
 refine .unit (aN (bA Q) func8 Q ntmps8 Q Q (λwX gX=>?_)) Q;unfold jS at hm;refine WN [0,1,2] Q Q (aR 1 Q (cQ 0 Q Q Q (aJ 4 Q (bD hm (λx1=>([(21,.d (.bool (x1)))])) (λx1=>[]) [21] [1,2] Q (λz2 hm=>?_) (λx1 hm=>?_)))))
 ·refine aR 2 Q (c_N hm (xH ·) Q Q Q Q λr3 hm=>aG 1 Q (SB TK Q (λq4 hq4=>?_)));cases q4
  ·replace hm:=JB hq4 hm;refine aG 1 Q (SX Q Q (aQ TK Q Q Q) (aG 2 Q (SB TK Q (λq5 hq5=>?_))));cases q5
   ·replace hm:=JF hq5 hm;exact aG 1 Q (SX Q Q (aQ TK Q Q Q) (aF 3 Q (bH [0] hm Q Q)))
   replace hm:=JT hq5 hm;exact aF 5 Q (bH [0] hm Q Q)
  replace hm:=JA hq4 hm;exact aF 10 Q (bH [0] hm Q Q)
 refine WN [1,2,21] Q Q (bS hm Q (λh6 hm=>?_) (λh6 hm=>?_))
 ·exact aI 6 Q (aP hm Q)
 refine bC 2 Q (bM hm (λ_=>[]) (λ_=>[]) [] [2] Q (λz7 hm hz7=>?_) (λj hm=>?_))
 ·refine bY 5 Q (bL hm (λi9=>([(7,.d (.int .i64 i9))])) (λi9=>[]) [7] [1,2] [0] Q k0 Q Q Q Q Q (λi9 z10 hm hz10=>WN [1,2,7] Q Q (aR 4 Q (SX Q Q (aQ TK Q Q Q) (aJ 3 Q (bO hm Q (λh11 hm=>?_) (λh11 hm=>?_)))))))
  ·refine aO 7 Q (VE hm λe12 he12 hm=>SX Q Q (dZ TK Q Q Q Q he12) (aG 2 Q (c_N hm (oA ·) Q Q Q Q λr13 hm=>aJ 3 Q (bO hm Q (λh14 hm=>?_) (λh14 hm=>?_)))))
   ·refine aI 7 Q (IE hm λv15 hm hz=>?_);rw [hz10 _ hz] at hm;refine WR (bG 1 Q (IE hm λv16 hm hz=>?_));rw [hz7 _ hz] at hm;exact WR (aP hm Q)
   exact aO 5 Q (GE hm λg17 hm=>SX Q Q (cA Q Q Q Q g17) (aF 2 Q (bT [0] hm Q Q)))
  refine aI 2 Q (IE hm λv18 hm hz=>?_);rw [hz10 _ hz] at hm;exact WX (bG 1 Q (bT [0] hm Q Q))
 refine WN [2] Q Q (bM hm (λ_=>[]) (λ_=>[]) [] [] Q (λz19 hm hz19=>?_) (λj hm=>?_))
 ·refine bY 5 Q (bL hm (λi21=>([(8,.d (.int .i64 i21))])) (λi21=>[]) [8] [2] [0] Q k0 Q Q Q Q Q (λi21 z22 hm hz22=>WN [2,8] Q Q (aR 4 Q (SX Q Q (aQ TK Q Q Q) (aJ 3 Q (bO hm Q (λh23 hm=>?_) (λh23 hm=>?_)))))))
  ·refine aO 7 Q (VE hm λe24 he24 hm=>SX Q Q (dZ TK Q Q Q Q he24) (aG 1 Q (SX Q Q (aQ TK Q Q Q) (aJ 3 Q (bO hm Q (λh25 hm=>?_) (λh25 hm=>?_))))))
   ·refine aI 7 Q (IE hm λv26 hm hz=>?_);rw [hz22 _ hz] at hm;refine WR (bG 1 Q (IE hm λv27 hm hz=>?_));rw [hz19 _ hz] at hm;exact WR (aP hm Q)
   exact aO 5 Q (GE hm λg28 hm=>SX Q Q (cA Q Q Q Q g28) (aF 2 Q (bT [0] hm Q Q)))
  refine aI 2 Q (IE hm λv29 hm hz=>?_);rw [hz22 _ hz] at hm;exact WX (bG 1 Q (bT [0] hm Q Q))
 exact WN [] Q Q (aI 5 Q (aP hm Q))
theorem dT {p0:Int} {r:Ac} (hm:cZ p0=some r):RetD TP 22 [.int .i64 p0] (r.enc):=by
 refine .of (mv:=λ_=>false) (aN (bA Q) func22 Q ntmps22 Q Q (λwX gX=>?_));unfold cZ at hm;refine WN [0] Q Q (aR 1 Q (eB 0 Q Q nI Q (dU 0 [none,none,some 3] Q Q (aG 4 Q (SX Q Q (cF Q qFR nI Q Q Q Q) (qIG 4 [none,none,some 3] Q (aF 4 Q ?_)))))));obtain rfl:=OJ hm;exact EndsS.cellR _ TK Q Q Q Q Q (.d _)
theorem pV {p0:Ac} {r:Ac} (hm:mL p0=some r):RetD TP 21 [p0.enc] (r.enc):=by
 refine .of (mv:=λ_=>false) (aN (bA Q) func21 Q ntmps21 Q Q (λwX gX=>?_));unfold mL at hm;refine WN [0] Q Q (aR 1 Q (cQ 0 Q Q Q (eB 1 Q Q nI Q (dU 1 [none,none,some 3] Q Q (aG 4 Q (SX Q Q (qEF (f:=Ac.Ak) (xs:=([p0]:List Ac)) [.tmp 3] TK Q Q nI Q (qGW Q (pO (Ac.Ag _) yN)) Q (uL Ac.Am) Q) (SX Q Q (cF Q qFR nI Q Q Q Q) (aF 4 Q ?_))))))));obtain rfl:=OJ hm;exact EndsS.cellR _ TK Q Q Q Q Q (.d _)
theorem eF  {r:Program} (hm:dO=some r):RetD TP 23 [] (r.enc):=by
 refine .of (mv:=λ_=>false) (aN (bA Q) func23 Q ntmps23 Q Q (λwX gX=>?_));unfold dO at hm;refine WN [] Q Q (aR 1 Q (eB 0 Q Q qED Q (dU 0 [some 1,none,some 6] Q Q (aG 3 Q (SX Q Q (fV [.const (Value.string ⟨#[97]⟩),.const (Value.string ⟨#[98]⟩),.const (Value.string ⟨#[99]⟩)] TK Q Q zero9 Q Q Q Q Q) (c_D hm (dT ·) Q Q Q Q λr1 hm=>c_D hm (pV ·) Q Q Q Q λr2 hm=>SX Q Q (cF Q qKF lA Q Q Q Q) (c_D hm (dT ·) Q Q Q Q λr3 hm=>SX Q Q (cF Q qKF lA Q Q Q Q) (SX Q Q (fV [.tmp 4,.tmp 6] TK Q Q lA Q Q Q Q Q) (SX Q Q (cF Q plc25 qED Q Q Q Q) (aF 4 Q ?_))))))))));obtain rfl:=OJ hm;exact EndsS.cellR _ TK Q Q Q Q Q (.d _)
theorem tS:∀ (fu:Nat) {p0:Ac} {p1:Int} {p2:Int} {p3:Int} {r0:Bool} {r1:Int} (hm:cT fu p0 p1 p2 p3=some (r0,r1)),Ret TP 67 [.box 3 [.d (.int .i64 p3)]] (λ_=>false) [.d (.ptr (p0.enc) 0),.d (.int .i64 p1),.d (.int .i64 p2),.mptr 0 0 0 0] (.d (.bool (r0))) [.box 3 [.d (.int .i64 r1)]]:=by
 intro fu
 induction fu with
 | zero=>
  intro p0 p1 p2 p3 r0 r1 hm;unfold cT at hm;cases hm
 | succ fu ih=>
  intro p0 p1 p2 p3 r0 r1 hm;refine cO (bA Q) func67 Q ntmps67 Q Q (λwX gX=>?_);unfold cT at hm;refine WN [0,1,2,3] Q Q (bY 5 Q ?_);refine iZ [(17,.d (.bool (((decide ((12:Int) < p2))||(decide (p3=(0:Int)))))))] [17] [0,1,2,3] Q ?_ ?_
  ·refine aR 3 Q (SB TK Q (λq1 hq1=>?_));cases q1
   ·refine aF 6 Q ?_;exact⟨[0],Q,(kB Q),cH (aX (aY (by first|(simp [hq1];done)|(simp only [hq1];simp))) Q) Q⟩
   refine aF 6 Q ?_;exact⟨[0],Q,(kB Q),cH (aX (aY (by first|(simp [hq1];done)|(simp only [hq1];simp))) Q) Q⟩
  refine WN [0,1,2,3,17] Q Q (bS hm Q (λh2 hm=>?_) (λh2 hm=>?_))
  ·refine aI 6 Q ?_;obtain⟨rfl,rfl⟩:=Prod.mk.inj (Option.some.inj hm);exact⟨_,[0],res Q,by decide,(kB Q),Q,Q⟩
  refine aO 6 Q (GE hm λg3 hm=>SX Q Q (cA Q Q Q Q g3) (aJ 4 Q (bM hm (λ_=>[]) (λ_=>[]) [] [0,1,2,3] Q (λz4 hm hz4=>?_) (λj hm=>?_))))
  ·refine bY 8 Q (bD hm (λx5=>([(27,.d (.bool (x5)))])) (λx5=>[]) [27] [0,1,2,3,26] Q (λz6 hm=>?_) (λx5 hm=>?_))
   ·refine bY 5 Q (bO hm Q (λh7 hm=>?_) (λh7 hm=>?_))
    ·exact aI 1 Q (e_j [0] hm Q (kB Q) Q)
    exact aI 4 Q (e_j [0] hm Q (kB Q) Q)
   refine WN [0,1,2,3,26,27] Q Q (bS hm Q (λh8 hm=>?_) (λh8 hm=>?_))
   ·refine iZ [(8,.d (.bool (((decide (p0.var=(0:Int)))&&(decide ((p0.args.length:Int)=(0:Int)))))))] [8] [] Q ?_ ?_
    ·refine aR 6 Q (SB TK Q (λq9 hq9=>?_));cases q9
     ·refine aF 9 Q ?_;exact⟨[0],Q,(kB Q),cH (aX (aY (by first|(simp [hq9];done)|(simp only [hq9];simp))) Q) Q⟩
     refine aG 4 Q (SX Q Q (aQ TK Q Q Q) (aF 4 Q ?_));exact⟨[0],Q,(kB Q),cH (aX (aY (by first|(simp [hq9];done)|(simp only [hq9];simp))) Q) Q⟩
    refine WN [8] Q Q (aI 2 Q (IE hm λv10 hm hz=>?_));rw [hz4 _ hz] at hm;refine WR ?_;obtain⟨rfl,rfl⟩:=Prod.mk.inj (Option.some.inj hm);exact⟨_,[0],res Q,by decide,(kB Q),Q,Q⟩
   refine bC 5 Q (bO hm Q (λh11 hm=>?_) (λh11 hm=>?_))
   ·refine iZ [(8,.d (.bool (((decide ((0:Int)<=p0.var))&&((decide (p0.var < p1))&&(decide ((p0.args.length:Int)=(0:Int))))))))] [8] [] Q ?_ ?_
    ·refine aR 6 Q (SB TK Q (λq12 hq12=>?_));cases q12
     ·refine aF 17 Q ?_;exact⟨[0],Q,(kB Q),cH (aX (aY (by first|(simp [hq12];done)|(simp only [hq12];simp))) Q) Q⟩
     refine aG 7 Q (SB TK Q (λq13 hq13=>?_));cases q13
     ·refine aF 9 Q ?_;exact⟨[0],Q,(kB Q),cH (aX (aY (by first|(simp [hq12,hq13];done)|(simp only [hq12,hq13];simp))) Q) Q⟩
     refine aG 4 Q (SX Q Q (aQ TK Q Q Q) (aF 4 Q ?_));exact⟨[0],Q,(kB Q),cH (aX (aY (by first|(simp [hq12,hq13];done)|(simp only [hq12,hq13];simp))) Q) Q⟩
    refine WN [8] Q Q (aI 2 Q (IE hm λv14 hm hz=>?_));rw [hz4 _ hz] at hm;refine WR ?_;obtain⟨rfl,rfl⟩:=Prod.mk.inj (Option.some.inj hm);exact⟨_,[0],res Q,by decide,(kB Q),Q,Q⟩
   refine bC 5 Q (bO hm Q (λh15 hm=>?_) (λh15 hm=>?_))
   ·refine aO 5 Q (SX Q Q (aQ TK Q Q Q) (aJ 3 Q (iU hm Q (λh16 hm=>?_) (λh16 hm=>?_))))
    ·refine bC 4 Q (WN [8] Q Q (aI 2 Q (IE hm λv17 hm hz=>?_)));rw [hz4 _ hz] at hm;refine WR ?_;obtain⟨rfl,rfl⟩:=Prod.mk.inj (Option.some.inj hm);exact⟨_,[0],res Q,by decide,(kB Q),Q,Q⟩
    exact aI 2 Q (e_l [0] hm Q (kB Q) Q)
   refine bC 6 Q (bO hm Q (λh18 hm=>?_) (λh18 hm=>?_))
   ·exact bC 2 Q (qAU Q true h18 (aI 2 Q (e_l [0] hm Q (kB Q) Q)))
   refine bC 5 Q (bO hm Q (λh19 hm=>?_) (λh19 hm=>?_))
   ·exact aI 2 Q (e_l [0] hm Q (kB Q) Q)
   refine aI 6 Q (IE hm λv20 hm hz=>?_);rw [hz4 _ hz] at hm;refine WR ?_;obtain⟨rfl,rfl⟩:=Prod.mk.inj (Option.some.inj hm);exact⟨_,[0],res Q,by decide,(kB Q),Q,Q⟩
  refine WN [0,1,2,3] Q Q (bC 9 Q (iU hm Q (λh21 hm=>?_) (λh21 hm=>?_)))
  ·refine aI 6 Q ?_;obtain⟨rfl,rfl⟩:=Prod.mk.inj (Option.some.inj hm);exact⟨_,[0],res Q,by decide,(kB Q),Q,Q⟩
  refine bC 2 Q (bM hm (λc22=>[]) (λc22=>([(0,.box 3 [.d (.int .i64 c22)])])) [] [] Q (λz23 hm hz23=>?_) (λc22 hm=>?_))
  ·refine aR 5 Q (SX Q Q (aQ TK Q Q Q) (aJ 4 Q (bL hm (λ(x27,c28)=>([(87,.d (.int .i64 x27))])) (λ(x27,c28)=>([(0,.box 3 [.d (.int .i64 c28)])])) [87] [0,1,2,3,86] [0] Q (kB Q) Q Q Q Q Q (λs z29 hm hz29=>?_))));obtain⟨x27,c28⟩:=s;refine WN [0,1,2,3,86,87] Q Q (bY 5 Q (bO hm Q (λh30 hm=>?_) (λh30 hm=>?_)))
   ·refine aO 15 Q (VE hm λe31 he31 hm=>SX Q Q (mW TK Q Q Q Q he31 (Ac.Ag _)) (aG 2 Q (GE hm λg32 hm=>SX Q Q (cA Q Q Q Q g32) (aG 1 Q (BE hm λr33 hr33 hm=>?_)))));obtain⟨r34,r35⟩:=r33;refine eV [0] (λ_=>false) Q Q Q (by decide) Q Q Q Q (ih hr33) Q Q Q ?_;refine aJ 3 Q (bS hm Q (λh36 hm=>?_) (λh36 hm=>?_))
    ·refine bC 4 Q (WN [8] Q Q (aI 3 Q (IE hm λv37 hm hz=>?_)));rw [hz29 _ hz] at hm;refine WR (bG 1 Q (IE hm λv38 hm hz=>?_));rw [hz23 _ hz] at hm;refine WR ?_;obtain⟨rfl,rfl⟩:=Prod.mk.inj (Option.some.inj hm);exact⟨_,[0],res Q,by decide,(kB Q),Q,Q⟩
    exact bC 3 Q (WN [0,1,2,3,86,87] Q Q (aO 1 Q (GE hm λg39 hm=>SX Q Q (cA Q Q Q Q g39) (aF 2 Q (e_l [0] hm Q (kB Q) Q)))))
   refine aI 2 Q (IE hm λv40 hm hz=>?_);rw [hz29 _ hz] at hm;exact WX (bG 1 Q (e_l [0] hm Q (kB Q) Q))
  refine WN [] Q Q (aI 5 Q ?_);obtain⟨rfl,rfl⟩:=Prod.mk.inj (Option.some.inj hm);exact⟨_,[0],res Q,by decide,(kB Q),Q,Q⟩
theorem wC {p0:Ac} {p1:Int} {p2:Int} {p3:Int} {r0:Bool} {r1:Int} (hm:nP p0 p1 p2 p3=some (r0,r1)):Ret TP 67 [.box 3 [.d (.int .i64 p3)]] (λ_=>false) [.d (.ptr (p0.enc) 0),.d (.int .i64 p1),.d (.int .i64 p2),.mptr 0 0 0 0] (.d (.bool (r0))) [.box 3 [.d (.int .i64 r1)]]:=tS aU hm
theorem wE {p0:Ac} {p1:Int} {r:Bool} (hm:gE p0 p1=some r):RetN TP 62 [p0.enc,.int .i64 p1] (.bool (r)):=by
 refine .unit (aN (bA Q) func62 Q ntmps62 Q Q (λwX gX=>?_)) Q;unfold gE at hm;refine WN [0,1] Q Q (aR 1 Q (cQ 0 Q Q Q (aG 4 Q (eB 1 Q Q gK Q (aJ 3 Q (qCF 0 Q Q Q Q Q (aO 2 Q (BE hm λr1 hr1 hm=>?_))))))));obtain⟨r2,r3⟩:=r1;refine eV [1] (λ_=>false) Q Q Q (by decide) Q Q Q Q (wC hr1) Q Q Q ?_;exact aF 4 Q (aP hm Q)
theorem qF {p0:Program} {p1:Af} {r:Bool} (hm:fD p0 p1=some r):RetN TP 55 [p0.enc,p1.enc] (.bool (r)):=by
 refine .unit (aN (bA Q) func55 Q ntmps55 Q Q (λwX gX=>?_)) Q;unfold fD at hm;refine WN [0,1] Q Q (aR 1 Q (cQ 0 Q Q Q (cQ 1 Q Q Q (aJ 3 Q (bM hm (λ_=>[]) (λ_=>[]) [] [2,3] Q (λz1 hm hz1=>?_) (λj hm=>?_))))))
 ·refine bY 11 Q (bO hm Q (λh2 hm=>?_) (λh2 hm=>?_))
  ·refine bC 6 Q (iU hm Q (λh3 hm=>?_) (λh3 hm=>?_))
   ·refine aI 6 Q (IE hm λv4 hm hz=>?_);rw [hz1 _ hz] at hm;exact WR (aP hm Q)
   exact aI 2 Q (bT [0,1] hm Q Q)
  refine bC 5 Q (bO hm Q (λh5 hm=>?_) (λh5 hm=>?_))
  ·refine iZ [(21,.d (.bool (((decide (p1.Ae < (1:Int)))||(decide ((1073741824:Int) < p1.Ae))))))] [21] [2,3] Q ?_ ?_
   ·refine aR 4 Q (SB TK Q (λq6 hq6=>?_));cases q6
    ·refine aF 5 Q ?_;exact⟨[0,1],Q,k0,cH (aX (aY (by first|(simp [hq6];done)|(simp only [hq6];simp))) Q) Q⟩
    refine aF 5 Q ?_;exact⟨[0,1],Q,k0,cH (aX (aY (by first|(simp [hq6];done)|(simp only [hq6];simp))) Q) Q⟩
   refine WN [2,3,21] Q Q (bS hm Q (λh7 hm=>?_) (λh7 hm=>?_))
   ·refine aI 6 Q (IE hm λv8 hm hz=>?_);rw [hz1 _ hz] at hm;exact WR (aP hm Q)
   exact aI 2 Q (bT [0,1] hm Q Q)
  refine aI 6 Q (IE hm λv9 hm hz=>?_);rw [hz1 _ hz] at hm;exact WR (aP hm Q)
 refine WN [2,3] Q Q (bD hm (λx10=>([(4,.d (.bool (x10)))])) (λx10=>[]) [4] [] Q (λz11 hm=>?_) (λx10 hm=>?_))
 ·refine aR 6 Q (SB TK Q (λq12 hq12=>?_));cases q12
  ·replace hm:=JF hq12 hm;exact aF 17 Q (bH [0,1] hm Q Q)
  replace hm:=JT hq12 hm;refine aG 4 Q (SX Q Q (aQ TK Q Q Q) (aG 2 Q (SB TK Q (λq13 hq13=>?_))));cases q13
  ·replace hm:=JF hq13 hm;exact aF 9 Q (bH [0,1] hm Q Q)
  replace hm:=JT hq13 hm;exact aG 4 Q (SX Q Q (aQ TK Q Q Q) (c_N hm (wE ·) Q Q Q Q λr14 hm=>aF 3 Q (bH [0,1] hm Q Q)))
 exact WN [4] Q Q (aI 1 Q (aP hm Q))
theorem gR {p0:Program} {r:Int} (hm:gB p0=some r):RetN TP 37 [p0.enc] (.int .i64 r):=by
 refine .unit (aN (bA Q) func37 Q ntmps37 Q Q (λwX gX=>?_)) Q;unfold gB at hm;refine WN [0] Q Q (aR 1 Q (cQ 0 Q Q Q (aG 7 Q (SX Q Q (aQ TK Q Q Q) (aJ 3 Q (bO hm Q (λh1 hm=>?_) (λh1 hm=>?_)))))))
 ·exact aI 6 Q (aP hm Q)
 refine bC 3 Q ?_;refine iZ [(22,.d (.bool (((decide (p0.inputs < (0:Int)))||(decide ((p0.names.length:Int) < p0.inputs))))))] [22] [1] Q ?_ ?_
 ·refine aR 4 Q (SB TK Q (λq2 hq2=>?_));cases q2
  ·refine aG 4 Q (SX Q Q (aQ TK Q Q Q) (aF 3 Q ?_));exact⟨[0],Q,k0,cH (aX (aY (by first|(simp [hq2];done)|(simp only [hq2];simp))) Q) Q⟩
  refine aF 8 Q ?_;exact⟨[0],Q,k0,cH (aX (aY (by first|(simp [hq2];done)|(simp only [hq2];simp))) Q) Q⟩
 refine WN [1,22] Q Q (bS hm Q (λh3 hm=>?_) (λh3 hm=>?_))
 ·exact aI 6 Q (aP hm Q)
 refine bC 2 Q (bM hm (λ_=>[]) (λ_=>[]) [] [1] Q (λz4 hm hz4=>?_) (λj hm=>?_))
 ·refine aR 3 Q (SX Q Q (aQ TK Q Q Q) (aJ 4 Q (bL hm (λx6=>([(26,.d (.int .i64 x6))])) (λx6=>[]) [26] [1,24,25] [0] Q k0 Q Q Q Q Q (λx6 z7 hm hz7=>WN [1,24,25,26] Q Q (bY 5 Q (bO hm Q (λh8 hm=>?_) (λh8 hm=>?_)))))))
  ·refine aO 5 Q (VE hm λe9 he9 hm=>SX Q Q (dZ TK Q Q Q Q he9) (aG 1 Q (eB 1 Q Q lA Q (dU 1 [none,none,none,none,none,some 3] Q Q (aG 6 Q (c_N hm (qF ·) Q Q Q Q λr10 hm=>aJ 3 Q (bS hm Q (λh11 hm=>?_) (λh11 hm=>?_))))))))
   ·refine aI 7 Q (IE hm λv12 hm hz=>?_);rw [hz7 _ hz] at hm;refine WR (bG 1 Q (IE hm λv13 hm hz=>?_));rw [hz4 _ hz] at hm;exact WR (aP hm Q)
   exact aO 4 Q (GE hm λg14 hm=>SX Q Q (cA Q Q Q Q g14) (aF 2 Q (bT [0] hm Q Q)))
  refine aI 2 Q (IE hm λv15 hm hz=>?_);rw [hz7 _ hz] at hm;exact WX (bG 1 Q (bT [0] hm Q Q))
 refine WN [1] Q Q (aO 3 Q (SX Q Q (aQ TK Q Q Q) (GE hm λg16 hm=>s_mkO (f:=D.bool) (x:=false) 1 TK Q Q Q iY Q Q Q Q Q g16 Q (aJ 3 Q (bM hm (λb17=>[]) (λb17=>([(1,.flat 4 1 (b17.map D.bool))])) [] [] Q (λz18 hm hz18=>?_) (λb17 hm=>?_))))))
 ·refine aR 3 Q (SX Q Q (aQ TK Q Q Q) (aJ 4 Q (bL hm (λ(x22,b23)=>([(5,.msl 1 1 0 b23.length),(42,.d (.int .i64 x22))])) (λ(x22,b23)=>([(1,.flat 4 1 (b23.map D.bool))])) [5,42] [40,41] [0,1] Q k0 Q Q Q Q Q (λs z24 hm hz24=>?_))));obtain⟨x22,b23⟩:=s;refine WN [5,40,41,42] Q Q (bY 5 Q (bO hm Q (λh25 hm=>?_) (λh25 hm=>?_)))
  ·refine aO 5 Q (VE hm λe26 he26 hm=>SX Q Q (dZ TK Q Q Q Q he26) (aG 1 Q (eB 2 Q Q lA Q (dU 2 [none,none,none,none,none,some 3] Q Q (aG 8 Q (VE hm λe27 he27 hm=>SX Q Q (eL TK Q Q Q Q he27 Q) (SX Q Q (jN TK Q Q Q Q he27.2 Q) (aJ 2 Q (bS hm Q (λh28 hm=>?_) (λh28 hm=>?_))))))))))
   ·refine aI 8 Q (IE hm λv29 hm hz=>?_);rw [hz24 _ hz] at hm;refine WR (bG 1 Q (IE hm λv30 hm hz=>?_));rw [hz18 _ hz] at hm;exact WR (aP hm Q)
   exact aO 6 Q (VE hm λe31 he31 hm=>SX Q Q (eL TK Q Q Q Q he31 Q) (nX (x':=true) TK Q Q Q Q Q he31.2 Q Q Q (eY 5 (b23.set e26.var.toNat true).length Q List.length_set.symm (eY 51 (b23.set e26.var.toNat true).length Q List.length_set.symm (aG 4 Q (GE hm λg32 hm=>SX Q Q (cA Q Q Q Q g32) (aF 2 Q (bT [0,1] hm Q Q))))))))
  refine aI 2 Q (IE hm λv33 hm hz=>?_);rw [hz24 _ hz] at hm;exact WX (bG 1 Q (bT [0,1] hm Q Q))
 exact WN [] Q Q (aI 5 Q (aP hm Q))
theorem kT {p0:Program} {p1:(List (List Bool))} {p2:Int} {r:Int} (hm:cY p0 p1 p2=some (none,r)):Ret TP 24 [] (λ_=>false) ([p0.enc,.sl 1 (p1.map (λ(l:List Bool)=>D.sl 1 (l.map D.bool))),.int .i64 p2].map .d) (.tup [.d .nilptr,.d (.int .i64 r)]) []:=by
 refine cO (bA Q) func24 Q ntmps24 Q Q (λwX gX=>?_);unfold cY at hm;refine WN [0,1,2] Q Q (aR 1 Q (cQ 0 Q Q Q (aJ 5 Q (bD hm (λx1=>([(23,.d (.bool (x1)))])) (λx1=>[]) [23] [1,2,3] Q (λz2 hm=>?_) (λx1 hm=>?_)))))
 ·refine aR 2 Q (c_N hm (gR ·) Q Q Q Q λr3 hm=>aG 1 Q (SB TK Q (λq4 hq4=>?_)));cases q4
  ·replace hm:=kL hq4 hm;refine aG 1 Q (SX Q Q (aQ TK Q Q Q) (aG 2 Q (SB TK Q (λq5 hq5=>?_))));cases q5
   ·replace hm:=JF hq5 hm;refine aG 3 Q (SB TK Q (λq6 hq6=>?_));cases q6
    ·replace hm:=JF hq6 hm;exact aF 4 Q (bH [0] hm Q Q)
    replace hm:=JT hq6 hm;exact aF 4 Q (bH [0] hm Q Q)
   replace hm:=JT hq5 hm;exact aF 8 Q (bH [0] hm Q Q)
  replace hm:=kK hq4 hm;exact aF 13 Q (bH [0] hm Q Q)
 refine WN [1,2,3,23] Q Q (bS hm Q (λh7 hm=>?_) (λh7 hm=>?_))
 ·refine aI 7 Q ?_;cases hm;exact⟨_,[],res Q,by decide,k0,Q,Q⟩
 refine aO 6 Q (tY 9 4 Q (rI 27 (.mmap 1) Q Q (SX Q Q (iP Q qKH qEA Q Q Q Q) (cQ 2 Q Q Q (aF 5 Q ?_)))));cases hm
theorem kS {p0:Program} {p1:(List (List Bool))} {p2:Int} {q:Ah} {r:Int} (hm:cY p0 p1 p2=some (some q,r)):Ret TP 24 [] (λ_=>false) ([p0.enc,.sl 1 (p1.map (λ(l:List Bool)=>D.sl 1 (l.map D.bool))),.int .i64 p2].map .d) (.tup [.mptr 0 0 0 0,.d (.int .i64 r)]) [.box 70 [.d (.sl 1 (q.p.names.map D.str)),.d (.int .i64 q.p.inputs),.d (.sl 6 (q.p.Ab.map Af.enc)),.d (.sl 1 (q.inputs.map (λ(l:List Bool)=>D.sl 1 (l.map D.bool)))),.d (.int .i64 q.depth),.d .nilsl,.mmap 1],.map 9 4 (aT D.str D.bool q.seen)]:=by
 refine cO (bA Q) func24 Q ntmps24 Q Q (λwX gX=>?_);unfold cY at hm;refine WN [0,1,2] Q Q (aR 1 Q (cQ 0 Q Q Q (aJ 5 Q (bD hm (λx1=>([(23,.d (.bool (x1)))])) (λx1=>[]) [23] [1,2,3] Q (λz2 hm=>?_) (λx1 hm=>?_)))))
 ·refine aR 2 Q (c_N hm (gR ·) Q Q Q Q λr3 hm=>aG 1 Q (SB TK Q (λq4 hq4=>?_)));cases q4
  ·replace hm:=kL hq4 hm;refine aG 1 Q (SX Q Q (aQ TK Q Q Q) (aG 2 Q (SB TK Q (λq5 hq5=>?_))));cases q5
   ·replace hm:=JF hq5 hm;refine aG 3 Q (SB TK Q (λq6 hq6=>?_));cases q6
    ·replace hm:=JF hq6 hm;exact aF 4 Q (bH [0] hm Q Q)
    replace hm:=JT hq6 hm;exact aF 4 Q (bH [0] hm Q Q)
   replace hm:=JT hq5 hm;exact aF 8 Q (bH [0] hm Q Q)
  replace hm:=kK hq4 hm;exact aF 13 Q (bH [0] hm Q Q)
 refine WN [1,2,3,23] Q Q (bS hm Q (λh7 hm=>?_) (λh7 hm=>?_))
 ·refine aI 7 Q ?_;cases hm
 refine aO 6 Q (tY 9 4 Q (rI 27 (.mmap 1) Q Q (SX Q Q (iP Q qKH qEA Q Q Q Q) (cQ 2 Q Q Q (aF 5 Q ?_)))));cases hm;exact⟨_,[2,1],res Q,by decide,k0,Q,Q⟩
theorem lN {p0:Program} {r:Machine} (hm:eI p0=some r):RetD TP 31 [p0.enc] (r.enc):=by
 refine .of (mv:=λ_=>false) (aN (bA Q) func31 Q ntmps31 Q Q (λwX gX=>?_));unfold eI at hm;refine WN [0] Q Q (aR 1 Q (cQ 0 Q Q Q (eB 1 Q Q cL Q (dU 1 [some 1,some 1,none] Q Q (aG 5 Q (c_N hm (gR ·) Q Q Q Q λr1 hm=>aJ 3 Q (iU hm Q (λh2 hm=>?_) (λh2 hm=>?_))))))))
 ·refine aO 1 Q (SX Q Q (cF Q oJ cL Q Q Q Q) (qIG 6 [some 1,some 1,none] Q (aF 5 Q ?_)));obtain rfl:=OJ hm;exact EndsS.cellR _ TK Q Q Q Q Q (.d _)
 refine bC 2 Q (bI follows ?_);iterate 2 (refine DA [0,1] TK Q ?_)
 refine DX [0,1] Q Q (aQ TK Q Q Q) (GE hm λg3 hm=>DX [0,1] Q Q (vA (f:=D.bool) (x:=false) TK Q Q iY Q Q Q Q Q g3 Q) ?_);iterate 2 (refine DA [0,1] TK Q ?_)
 refine DX [0,1] Q Q (aQ TK Q Q Q) (GE hm λg4 hm=>DX [0,1] Q Q (vA (f:=(D.int .i64)) (x:=(0:Int)) TK Q Q gK Q Q Q Q Q g4 Q) (DX [0,1] Q Q (cF Q oJ cL Q Q Q Q) ?_));refine DT ?_ (by kernel_rfl);refine aF 4 Q ?_;obtain rfl:=OJ hm;exact EndsS.cellR _ TK Q Q Q Q Q (.d _)
theorem nU {p0:Int} {r:BA} (hm:eA p0=some r):RetN TP 71 [.int .i64 p0] (.str r):=by
 refine .unit (aN (bA Q) func71 Q ntmps71 Q Q (λwX gX=>?_)) Q;unfold eA at hm;refine WN [0] Q Q (bY 10 Q (bO hm Q (λh1 hm=>?_) (λh1 hm=>?_)))
 ·exact aO 3 Q (GE hm λg2 hm=>SX Q Q (cA Q Q Q Q g2) (GE hm λg3 hm=>SX Q Q (qEG Q Tryd.underlying9 Q Q Q g3) (aF 5 Q (aP hm Q))))
 exact aO 4 Q (GE hm λg4 hm=>SX Q Q (cA Q Q Q Q g4) (aG 1 Q (GE hm λg5 hm=>SX Q Q (cA Q Q Q Q g5) (GE hm λg6 hm=>SX Q Q (cA Q Q Q Q g6) (GE hm λg7 hm=>SX Q Q (qEG Q Tryd.underlying9 Q Q Q g7) (aF 4 Q (aP hm Q)))))))
theorem kE {p0:(List Int)} {p1:Bool} {r:(List Int)} (hm:eM p0 p1=some r):Ret TP 63 [.flat 5 1 (p0.map (D.int .u8))] (λj=>Nat.beq j 0) [.msl 0 1 0 p0.length,.d (.bool (p1))] (.msl 0 1 0 r.length) [.flat 5 1 (r.map (D.int .u8))]:=by
 refine cO (bA Q) func63 Q ntmps63 Q Q (λwX gX=>?_);unfold eM at hm;refine WN [0,1] Q Q (aR 1 Q (jH (f:=(D.int .u8)) 1 5 1 Q Q Q (aJ 7 Q (bS hm Q (λh1 hm=>?_) (λh1 hm=>?_)))))
 ·refine aO 2 Q (GE hm λg2 hm=>zF (xs:=p0) (⟨#[116,114,117,101]⟩:BA) TK Q Q Q nT Q Q Q Q Q (λ_=>Q) Q g2 Q Q (aF 5 Q ?_));obtain rfl:=OJ hm;exact⟨_,[0],res Q,by decide,(kB Q),Q,Q⟩
 refine aO 4 Q (GE hm λg3 hm=>zF (xs:=p0) (⟨#[102,97,108,115,101]⟩:BA) TK Q Q Q nT Q Q Q Q Q (λ_=>Q) Q g3 Q Q (aF 4 Q ?_));obtain rfl:=OJ hm;exact⟨_,[0],res Q,by decide,(kB Q),Q,Q⟩
theorem lC {p0:(List Int)} {p1:Bool} {r:(List Int)} (hm:dV p0 p1=some r):Ret TP 56 [.flat 5 1 (p0.map (D.int .u8))] (λj=>Nat.beq j 0) [.msl 0 1 0 p0.length,.d (.bool (p1))] (.msl 0 1 0 r.length) [.flat 5 1 (r.map (D.int .u8))]:=by
 refine cO (bA Q) func56 Q ntmps56 Q Q (λwX gX=>?_);unfold dV at hm;refine WN [0,1] Q Q (aR 1 Q (jH (f:=(D.int .u8)) 1 5 1 Q Q Q (aG 5 Q (BE hm λr1 hr1 hm=>?_))));refine eV [0] (λj=>Nat.beq j 0) Q Q Q (by decide) Q Q Q Q (kE hr1) Q Q Q ?_;refine aF 4 Q ?_;obtain rfl:=OJ hm;exact⟨_,[0],res Q,by decide,(kB Q),Q,Q⟩
theorem kD {p0:(List Int)} {p1:Int} {p2:Int} {r:(List Int)} (hm:dF p0 p1 p2=some r):Ret TP 68 [.flat 5 1 (p0.map (D.int .u8))] (λj=>Nat.beq j 0) [.msl 0 1 0 p0.length,.d (.int .u64 p1),.d (.int .i64 p2)] (.msl 0 1 0 r.length) [.flat 5 1 (r.map (D.int .u8))]:=by
 refine cO (bA Q) func68 Q ntmps68 Q Q (λwX gX=>?_);unfold dF at hm;refine WN [0,1,2] Q Q (aR 1 Q (jH (f:=(D.int .u8)) 1 5 1 Q Q Q (aJ 8 Q (bO hm Q (λh1 hm=>?_) (λh1 hm=>?_)))))
 ·refine bC 6 Q (bO hm Q (λh2 hm=>?_) (λh2 hm=>?_))
  ·refine aO 3 Q (SX Q Q (qAR Q Tryd.underlying118 Tryd.underlying3 Q) (c_N hm (nU ·) Q Q Q Q λr3 hm=>GE hm λg4 hm=>zF (xs:=p0) r3 TK Q Q Q nT Q Q Q Q Q (λ_=>Q) Q g4 Q Q (aF 6 Q ?_)));obtain rfl:=OJ hm;exact⟨_,[0],res Q,by decide,(kB Q),Q,Q⟩
  cases hm
 cases hm
theorem kW {p0:(List Int)} {p1:Int} {p2:Int} {r:(List Int)} (hm:dQ p0 p1 p2=some r):Ret TP 64 [.flat 5 1 (p0.map (D.int .u8))] (λj=>Nat.beq j 0) [.msl 0 1 0 p0.length,.d (.int .i64 p1),.d (.int .i64 p2)] (.msl 0 1 0 r.length) [.flat 5 1 (r.map (D.int .u8))]:=by
 refine cO (bA Q) func64 Q ntmps64 Q Q (λwX gX=>?_);unfold dQ at hm;refine WN [0,1,2] Q Q (aR 1 Q (jH (f:=(D.int .u8)) 1 5 1 Q Q Q (aG 4 Q (SX Q Q (qAR Q Tryd.underlying2 Tryd.underlying118 Q) (aJ 3 Q (bD hm (λ_=>([(0,.msl 0 1 0 p0.length),(7,.d (.int .u64 (IntKind.u64.wrap p1)))])) (λ_=>[]) [0,7] [2] Q (λz1 hm=>?_) (λj hm=>?_)))))))
 ·refine bY 5 Q (bO hm Q (λh2 hm=>?_) (λh2 hm=>?_))
  ·cases hm
  exact aI 1 Q (e_j [0,1] hm Q (kB Q) Q)
 refine WN [0,2,7] Q Q (aO 4 Q (BE hm λr3 hr3 hm=>?_));refine eV [0] (λj=>Nat.beq j 0) Q Q Q (by decide) Q Q Q Q (kD hr3) Q Q Q ?_;refine aF 4 Q ?_;obtain rfl:=OJ hm;exact⟨_,[0],res Q,by decide,(kB Q),Q,Q⟩
theorem mT {p0:(List Int)} {p1:Int} {p2:Int} {r:(List Int)} (hm:dE p0 p1 p2=some r):Ret TP 57 [.flat 5 1 (p0.map (D.int .u8))] (λj=>Nat.beq j 0) [.msl 0 1 0 p0.length,.d (.int .i64 p1),.d (.int .i64 p2)] (.msl 0 1 0 r.length) [.flat 5 1 (r.map (D.int .u8))]:=by
 refine cO (bA Q) func57 Q ntmps57 Q Q (λwX gX=>?_);unfold dE at hm;refine WN [0,1,2] Q Q (aR 1 Q (jH (f:=(D.int .u8)) 1 5 1 Q Q Q (aG 6 Q (BE hm λr1 hr1 hm=>?_))));refine eV [0] (λj=>Nat.beq j 0) Q Q Q (by decide) Q Q Q Q (kW hr1) Q Q Q ?_;refine aF 4 Q ?_;obtain rfl:=OJ hm;exact⟨_,[0],res Q,by decide,(kB Q),Q,Q⟩
theorem jK {p0:Machine} {r:BA} (hm:eT p0=some r):RetN TP 40 [p0.enc] (.str r):=by
 refine .unit (aN (bA Q) func40 Q ntmps40 Q Q (λwX gX=>?_)) Q;unfold eT at hm;refine WN [0] Q Q (aR 1 Q (cQ 0 Q Q Q (aG 6 Q (qIH (f:=(D.int .u8)) 1 5 1 Q (BE hm λr1 hr1 hm=>?_)))));refine qEY [1] (λj=>Nat.beq j 0) Q Q Q (by decide) Q Q Q Q (lC hr1) (.cons (.nil _ _) (.cons (.refl _) .nil)) Q Q Q ?_;refine aJ 3 Q (bD hm (λb2=>([(3,.msl 1 1 0 b2.length)])) (λb2=>([(1,.flat 5 1 (b2.map (D.int .u8)))])) [3] [1] Q (λz3 hm=>?_) (λb2 hm=>?_))
 ·refine aR 3 Q (SX Q Q (aQ TK Q Q Q) (aJ 4 Q (bL hm (λ(x7,b8)=>([(3,.msl 1 1 0 b8.length),(14,.d (.int .i64 x7))])) (λ(x7,b8)=>([(1,.flat 5 1 (b8.map (D.int .u8)))])) [3,14] [1,12,13] [0,1] Q k0 Q Q Q Q Q (λs z9 hm hz9=>?_))));obtain⟨x7,b8⟩:=s;refine WN [1,3,12,13,14] Q Q (bY 5 Q (bO hm Q (λh10 hm=>?_) (λh10 hm=>?_)))
  ·refine aO 5 Q (VE hm λe11 he11 hm=>SX Q Q (dZ TK Q Q Q Q he11) (aJ 8 Q (bS hm Q (λh12 hm=>?_) (λh12 hm=>?_))))
   ·exact aO 2 Q (SX Q Q (fV [.const (Value.int IntKind.u8 49)] TK Q Q nT Q Q Q Q Q) (GE hm λg13 hm=>jQ (f:=(D.int .u8)) ([(49:Int)]:List Int) TK Q Q nT Q Q Q Q Q (λh=>absurd h (zQV _)) Q jP g13 Q Q (aG 5 Q (GE hm λg14 hm=>SX Q Q (cA Q Q Q Q g14) (aF 2 Q (bT [0,1] hm Q Q))))))
   exact aO 2 Q (SX Q Q (fV [.const (Value.int IntKind.u8 48)] TK Q Q nT Q Q Q Q Q) (GE hm λg15 hm=>jQ (f:=(D.int .u8)) ([(48:Int)]:List Int) TK Q Q nT Q Q Q Q Q (λh=>absurd h (zQV _)) Q jP g15 Q Q (aG 5 Q (GE hm λg16 hm=>SX Q Q (cA Q Q Q Q g16) (aF 2 Q (bT [0,1] hm Q Q))))))
  refine aI 2 Q (IE hm λv17 hm hz=>?_);rw [hz9 _ hz] at hm;exact WX (bG 1 Q (bH [0,1] hm Q Q))
 refine WN [1,3] Q Q (bD hm (λb18=>([(3,.msl 1 1 0 b18.length)])) (λb18=>([(1,.flat 5 1 (b18.map (D.int .u8)))])) [3] [] Q (λz19 hm=>?_) (λb18 hm=>?_))
 ·refine aR 3 Q (SX Q Q (aQ TK Q Q Q) (aJ 4 Q (bL hm (λ(x23,b24)=>([(3,.msl 1 1 0 b24.length),(29,.d (.int .i64 x23))])) (λ(x23,b24)=>([(1,.flat 5 1 (b24.map (D.int .u8)))])) [3,29] [27,28] [0,1] Q k0 Q Q Q Q Q (λs z25 hm hz25=>?_))));obtain⟨x23,b24⟩:=s;refine WN [3,27,28,29] Q Q (bY 5 Q (bO hm Q (λh26 hm=>?_) (λh26 hm=>?_)))
  ·refine aO 5 Q (VE hm λe27 he27 hm=>SX Q Q (dZ TK Q Q Q Q he27) (aG 6 Q (SX Q Q (fV [.const (Value.int IntKind.u8 32)] TK Q Q nT Q Q Q Q Q) (GE hm λg28 hm=>jQ (f:=(D.int .u8)) ([(32:Int)]:List Int) TK Q Q nT Q Q Q Q Q (λh=>absurd h (zQV _)) Q jP g28 Q Q (aG 6 Q (BE hm λr29 hr29 hm=>?_))))));refine eV [1] (λj=>Nat.beq j 0) Q Q Q (by decide) Q Q Q Q (mT hr29) Q Q Q ?_;exact aG 5 Q (GE hm λg30 hm=>SX Q Q (cA Q Q Q Q g30) (aF 2 Q (bT [0,1] hm Q Q)))
  refine aI 2 Q (IE hm λv31 hm hz=>?_);rw [hz25 _ hz] at hm;exact WX (bG 1 Q (bH [0,1] hm Q Q))
 refine WN [3] Q Q ?_;refine qAK 3 1 [] Q Q Q Q Q (by simp) Q Q ?_;exact aO 2 Q (SX Q Q (x_bstr (xs:=b18) Q Tryd.underlying102 Tryd.underlying5 Tryd.underlying9 Q) (aF 4 Q (aP hm Q)))
theorem zR {p0:Program} {p1:Machine} {r:Bool} (hm:jU p0 p1=some r):RetN TP 48 [p0.enc,p1.enc] (.bool (r)):=by
 refine .unit (aN (bA Q) func48 Q ntmps48 Q Q (λwX gX=>?_)) Q;unfold jU at hm;refine WN [0,1] Q Q (aR 1 Q (cQ 0 Q Q Q (cQ 1 Q Q Q (aJ 4 Q (bD hm (λx1=>([(27,.d (.bool (x1)))])) (λx1=>[]) [27] [2,3] Q (λz2 hm=>?_) (λx1 hm=>?_))))))
 ·refine aR 2 Q (c_N hm (gR ·) Q Q Q Q λr3 hm=>aG 1 Q (SB TK Q (λq4 hq4=>?_)));cases q4
  ·replace hm:=kL hq4 hm;refine aG 2 Q (SX Q Q (aQ TK Q Q Q) (aG 2 Q (SX Q Q (aQ TK Q Q Q) (aG 2 Q (SB TK Q (λq5 hq5=>?_))))));cases q5
   ·replace hm:=kL hq5 hm;exact aG 2 Q (SX Q Q (aQ TK Q Q Q) (aG 2 Q (SX Q Q (aQ TK Q Q Q) (aF 3 Q (bH [0,1] hm Q Q)))))
   replace hm:=kK hq5 hm;exact aF 9 Q (bH [0,1] hm Q Q)
  replace hm:=kK hq4 hm;exact aF 18 Q (bH [0,1] hm Q Q)
 refine WN [2,3,27] Q Q (bS hm Q (λh6 hm=>?_) (λh6 hm=>?_))
 ·exact aI 6 Q (aP hm Q)
 refine bC 2 Q (bM hm (λ_=>[]) (λ_=>[]) [] [] Q (λz7 hm hz7=>?_) (λj hm=>?_))
 ·refine aR 3 Q (SX Q Q (aQ TK Q Q Q) (aJ 4 Q (bL hm (λx9=>([(31,.d (.int .i64 x9))])) (λx9=>[]) [31] [3,29,30] [0,1] Q k0 Q Q Q Q Q (λx9 z10 hm hz10=>WN [3,29,30,31] Q Q (bY 5 Q (bO hm Q (λh11 hm=>?_) (λh11 hm=>?_)))))))
  ·refine aO 6 Q (VE hm λe12 he12 hm=>SX Q Q (dZ TK Q Q Q Q he12) (aG 1 Q (eB 2 Q Q lA Q (dU 2 [none,none,none,none,none,some 3] Q Q (aJ 4 Q (bD hm (λx13=>([(51,.d (.bool (x13)))])) (λx13=>[]) [51] [3,29,30,31] Q (λz14 hm=>?_) (λx13 hm=>?_)))))))
   ·refine tU follows ?_;iterate 3 (refine DA [0,1,2] TK Q ?_)
    refine VE hm λe15 he15 hm=>DX [0,1,2] Q Q (dZ TK Q Q Q Q he15) ?_;iterate 2 (refine DA [0,1,2] TK Q ?_)
    refine d_b [0,1,2] TK Q (λq16 hq16=>?_);cases q16
    ·replace hm:=JF hq16 hm;iterate 3 (refine DA [0,1,2] TK Q ?_)
     refine VE hm λe17 he17 hm=>DX [0,1,2] Q Q (dZ TK Q Q Q Q he17) ?_;iterate 5 (refine DA [0,1,2] TK Q ?_)
     refine DT ?_ (by kernel_rfl);exact aF 1 Q (bH [0,1,2] hm Q Q)
    replace hm:=JT hq16 hm;iterate 9 (refine DA [0,1,2] TK Q ?_)
    refine DT ?_ (by kernel_rfl);exact aF 1 Q (bH [0,1,2] hm Q Q)
   refine WN [3,29,30,31,51] Q Q (bS hm Q (λh18 hm=>?_) (λh18 hm=>?_))
   ·refine aI 7 Q (IE hm λv19 hm hz=>?_);rw [hz10 _ hz] at hm;refine WR (bG 1 Q (IE hm λv20 hm hz=>?_));rw [hz7 _ hz] at hm;exact WR (aP hm Q)
   exact aO 4 Q (GE hm λg21 hm=>SX Q Q (cA Q Q Q Q g21) (aF 2 Q (bT [0,1] hm Q Q)))
  refine aI 2 Q (IE hm λv22 hm hz=>?_);rw [hz10 _ hz] at hm;exact WX (bG 1 Q (bT [0,1] hm Q Q))
 exact WN [] Q Q (aI 5 Q (aP hm Q))
theorem oH {p0:Int} {p1:Bool} {r0:Int} {r1:Bool} (hm:eD p0 p1=some (r0,r1)):Ret TP 60 [] (λ_=>false) ([.int .i64 p0,.bool (p1)].map .d) (.tup ([.int .i64 r0,.bool (r1)].map .d)) []:=by
 refine mG (bA Q) func60 Q ntmps60 Q Q (λwX gX=>?_);unfold eD at hm;refine WN [0,1] Q Q (r_px 13 Q ?_);obtain⟨rfl,rfl⟩:=Prod.mk.inj (Option.some.inj hm);exact EndsT.two Q (.d _) (.refl _) (.d _) (.refl _)
theorem oI {p0:Int} {p1:Bool} {r0:Int} {r1:Bool} (hm:eD p0 p1=some (r0,r1)):RetT TP 60 [.int .i64 p0,.bool (p1)] [.int .i64 r0,.bool (r1)]:=.of (mv:=λ_=>false) (oH hm)
theorem oF {p0:Int} {p1:Bool} {p2:Af} {r0:Int} {r1:Bool} (hm:dD p0 p1 p2=some (r0,r1)):Ret TP 61 [] (λ_=>false) ([.int .i64 p0,.bool (p1),.ptr (p2.enc) 0].map .d) (.tup ([.int .i64 r0,.bool (r1)].map .d)) []:=by
 refine mG (bA Q) func61 Q ntmps61 Q Q (λwX gX=>?_);unfold dD at hm;refine WN [0,1,2] Q Q (bY 11 Q (bS hm Q (λh1 hm=>?_) (λh1 hm=>?_)))
 ·refine aI 7 Q ?_;obtain⟨rfl,rfl⟩:=Prod.mk.inj (Option.some.inj hm);exact EndsT.two Q (.d _) (.refl _) (.d _) (.refl _)
 refine bC 10 Q (bO hm Q (λh2 hm=>?_) (λh2 hm=>?_))
 ·refine aO 2 Q (GE hm λg3 hm=>SX Q Q (cA Q Q Q Q g3) (aJ 3 Q (bI follows ?_)));iterate 6 (refine DA [] TK Q ?_)
  refine DT ?_ (by kernel_rfl);refine aJ 3 Q (WN [5,6] Q Q (aI 1 Q ?_));obtain⟨rfl,rfl⟩:=Prod.mk.inj (Option.some.inj hm);exact EndsT.two Q (.d _) (.refl _) (.d _) (.refl _)
 refine bC 2 Q (bI follows ?_);iterate 6 (refine DA [] TK Q ?_)
 refine DT ?_ (by kernel_rfl);refine aJ 3 Q (WN [5,6] Q Q (aI 1 Q ?_));obtain⟨rfl,rfl⟩:=Prod.mk.inj (Option.some.inj hm);exact EndsT.two Q (.d _) (.refl _) (.d _) (.refl _)
theorem oG {p0:Int} {p1:Bool} {p2:Af} {r0:Int} {r1:Bool} (hm:dD p0 p1 p2=some (r0,r1)):RetT TP 61 [.int .i64 p0,.bool (p1),.ptr (p2.enc) 0] [.int .i64 r0,.bool (r1)]:=.of (mv:=λ_=>false) (oF hm)
theorem rW {p0:Af} {r:Al} (hm:fP p0=some r):RetD TP 52 [p0.enc] (r.enc):=by
 refine .of (mv:=λ_=>false) (aN (bA Q) func52 Q ntmps52 Q Q (λwX gX=>?_));unfold fP at hm;refine WN [0] Q Q (aR 1 Q (cQ 0 Q Q Q (eB 1 Q Q yY Q (aJ 9 Q (iU hm Q (λh1 hm=>?_) (λh1 hm=>?_))))))
 ·refine aO 1 Q (SX Q Q (cF Q qKE yY Q Q Q Q) (aF 5 Q ?_));obtain rfl:=OJ hm;exact EndsS.cellR _ TK Q Q Q Q Q (.d _)
 refine bC 2 Q (qCF 0 Q Q Q Q Q (aO 2 Q (SX Q Q (cF Q qKE yY Q Q Q Q) (aF 4 Q ?_))));obtain rfl:=OJ hm;exact EndsS.cellR _ TK Q Q Q Q Q (.d _)
theorem tT {p0:Ac} {r:Aj} (hm:gV p0=some r):RetD TP 65 [.ptr (p0.enc) 0] (r.enc):=by
 refine .of (mv:=λ_=>false) (aN (bA Q) func65 Q ntmps65 Q Q (λwX gX=>?_));unfold gV at hm;refine WN [0] Q Q (bY 18 Q (bO hm Q (λh1 hm=>?_) (λh1 hm=>?_)))
 ·exact aO 2 Q (SX Q Q (cF Q plc112 uZ Q Q Q Q) (aF 7 Q (aP hm Q)))
 refine bC 5 Q (bO hm Q (λh2 hm=>?_) (λh2 hm=>?_))
 ·refine aO 5 Q (SX Q Q (aQ TK Q Q Q) (aJ 3 Q (bO hm Q (λh3 hm=>?_) (λh3 hm=>?_))))
  ·exact aO 2 Q (SX Q Q (cF Q plc113 uY Q Q Q Q) (aJ 4 Q (WN [2] Q Q (aI 3 Q (aP hm Q)))))
  exact bC 3 Q (WN [0] Q Q (aO 2 Q (SX Q Q (cF Q qFS qAP Q Q Q Q) (aF 5 Q (aP hm Q)))))
 refine bC 5 Q (bO hm Q (λh4 hm=>?_) (λh4 hm=>?_))
 ·exact aO 2 Q (SX Q Q (cF Q plc114 uX Q Q Q Q) (aJ 4 Q (WN [2] Q Q (aI 3 Q (aP hm Q)))))
 refine bC 5 Q (bO hm Q (λh5 hm=>?_) (λh5 hm=>?_))
 ·exact aO 2 Q (SX Q Q (cF Q plc115 uW Q Q Q Q) (aJ 4 Q (WN [2] Q Q (aI 3 Q (aP hm Q)))))
 exact aO 5 Q (SX Q Q (cF Q qFS qAP Q Q Q Q) (aJ 4 Q (WN [2] Q Q (aI 1 Q (aP hm Q)))))
theorem wD:∀ (fu:Nat) {p0:Ac} {p1:(List Bool)} {r:Bool} (hm:cX fu p0 p1=some r),RetN TP 58 [.ptr (p0.enc) 0,.sl 1 (p1.map D.bool)] (.bool (r)):=by
 intro fu
 induction fu with
 | zero=>
  intro p0 p1 r hm;unfold cX at hm;cases hm
 | succ fu ih=>
  intro p0 p1 r hm;refine .unit (aN (bA Q) func58 Q ntmps58 Q Q (λwX gX=>?_)) Q;unfold cX at hm;refine WN [0,1] Q Q (bY 4 Q (bM hm (λ_=>[]) (λ_=>[]) [] [0] Q (λz1 hm hz1=>?_) (λj hm=>?_)))
  ·refine aR 2 Q (c_D hm (tT ·) Q Q Q Q λr2 hm=>aG 4 Q ?_);by_cases h3:r2.tid=112
   ·rw [if_pos h3] at hm;refine SX Q Q (qAS Q qCB Q h3) (aJ 4 Q ?_);refine TC true Q (λ_=>?_) (λh=>by cases h);refine aO 1 Q (eB 0 Q Q uZ Q (aJ 3 Q (bD hm (λx4=>([(4,.d (.bool (x4)))])) (λx4=>[]) [4] [] Q (λz5 hm=>?_) (λx4 hm=>?_))))
    ·refine aR 7 Q (SB TK Q (λq6 hq6=>?_));cases q6
     ·replace hm:=JF hq6 hm;exact aF 21 Q (bH [0] hm Q Q)
     replace hm:=JT hq6 hm;refine aG 6 Q (SX Q Q (aQ TK Q Q Q) (aG 2 Q (SB TK Q (λq7 hq7=>?_))));cases q7
     ·replace hm:=JF hq7 hm;exact aF 11 Q (bH [0] hm Q Q)
     replace hm:=JT hq7 hm;exact aG 6 Q (VE hm λe8 he8 hm=>SX Q Q (dZ TK Q Q Q Q he8) (aF 4 Q (bH [0] hm Q Q)))
    refine WN [4] Q Q (aI 2 Q (IE hm λv9 hm hz=>?_));rw [hz1 _ hz] at hm;exact WR (aP hm Q)
   rw [if_neg h3] at hm;refine SX Q Q (qAT Q qCB Q h3 uZ Q) (aJ 4 Q (TC false Q (λh=>by cases h) (λ_=>aO 1 Q ?_)));by_cases h10:r2.tid=113
   ·rw [if_pos h10] at hm;refine SX Q Q (qAS Q qCA Q h10) (aJ 4 Q ?_);refine TC true Q (λ_=>?_) (λh=>by cases h);refine aO 1 Q (eB 0 Q Q uY Q (aG 9 Q (VE hm λe11 he11 hm=>SX Q Q (mW TK Q Q Q Q he11 (Ac.Ag _)) (aG 1 Q (c_N hm (ih ·) Q Q Q Q λr12 hm=>aJ 4 Q (WN [4] Q Q (aI 2 Q (IE hm λv13 hm hz=>?_))))))));rw [hz1 _ hz] at hm;exact WR (aP hm Q)
   rw [if_neg h10] at hm;refine SX Q Q (qAT Q qCA Q h10 uY Q) (aJ 4 Q (TC false Q (λh=>by cases h) (λ_=>aO 1 Q ?_)));by_cases h14:r2.tid=114
   ·rw [if_pos h14] at hm;refine SX Q Q (qAS Q qBZ Q h14) (aJ 4 Q ?_);refine TC true Q (λ_=>?_) (λh=>by cases h);refine aO 1 Q (eB 0 Q Q uX Q (aJ 3 Q (bM hm (λ_=>[]) (λ_=>[]) [] [] Q (λz15 hm hz15=>?_) (λj hm=>?_))))
    ·refine aR 6 Q (SX Q Q (aQ TK Q Q Q) (aJ 3 Q (WN [1,7,62,63] Q Q (bC 1 Q (bL hm (λx17=>([(63,.d (.int .i64 x17))])) (λx17=>[]) [63] [1,7,62] [0] Q k0 Q Q Q Q Q (λx17 z18 hm hz18=>WN [1,7,62,63] Q Q (bY 5 Q (bO hm Q (λh19 hm=>?_) (λh19 hm=>?_)))))))))
     ·refine aO 16 Q (VE hm λe20 he20 hm=>SX Q Q (mW TK Q Q Q Q he20 (Ac.Ag _)) (aG 1 Q (c_N hm (ih ·) Q Q Q Q λr21 hm=>aJ 3 Q (bS hm Q (λh22 hm=>?_) (λh22 hm=>?_)))))
      ·refine bC 4 Q (WN [4] Q Q (aI 3 Q (IE hm λv23 hm hz=>?_)));rw [hz18 _ hz] at hm;refine WR (bG 1 Q (IE hm λv24 hm hz=>?_));rw [hz15 _ hz] at hm;refine WR (bG 1 Q (IE hm λv25 hm hz=>?_));rw [hz1 _ hz] at hm;exact WR (aP hm Q)
      exact aO 4 Q (GE hm λg26 hm=>SX Q Q (cA Q Q Q Q g26) (aF 2 Q (bT [0] hm Q Q)))
     refine aI 2 Q (IE hm λv27 hm hz=>?_);rw [hz18 _ hz] at hm;exact WX (bG 1 Q (bT [0] hm Q Q))
    refine WN [] Q Q (aI 6 Q (IE hm λv28 hm hz=>?_));rw [hz1 _ hz] at hm;exact WR (aP hm Q)
   rw [if_neg h14] at hm;refine SX Q Q (qAT Q qBZ Q h14 uX Q) (aJ 4 Q (TC false Q (λh=>by cases h) (λ_=>aO 1 Q ?_)));by_cases h29:r2.tid=115
   ·rw [if_pos h29] at hm;refine SX Q Q (qAS Q qBY Q h29) (aJ 4 Q ?_);refine TC true Q (λ_=>?_) (λh=>by cases h);refine aO 1 Q (eB 0 Q Q uW Q (aJ 3 Q (WN [1,9] Q Q (bM hm (λ_=>[]) (λ_=>[]) [] [] Q (λz30 hm hz30=>?_) (λj hm=>?_)))))
    ·refine aR 6 Q (SX Q Q (aQ TK Q Q Q) (aJ 4 Q (bL hm (λx32=>([(86,.d (.int .i64 x32))])) (λx32=>[]) [86] [1,9,85] [0] Q k0 Q Q Q Q Q (λx32 z33 hm hz33=>WN [1,9,85,86] Q Q (bY 5 Q (bO hm Q (λh34 hm=>?_) (λh34 hm=>?_)))))))
     ·refine aO 16 Q (VE hm λe35 he35 hm=>SX Q Q (mW TK Q Q Q Q he35 (Ac.Ag _)) (aG 1 Q (c_N hm (ih ·) Q Q Q Q λr36 hm=>aJ 2 Q (bS hm Q (λh37 hm=>?_) (λh37 hm=>?_)))))
      ·refine bC 4 Q (WN [4] Q Q (aI 3 Q (IE hm λv38 hm hz=>?_)));rw [hz33 _ hz] at hm;refine WR (bG 1 Q (IE hm λv39 hm hz=>?_));rw [hz30 _ hz] at hm;refine WR (bG 1 Q (IE hm λv40 hm hz=>?_));rw [hz1 _ hz] at hm;exact WR (aP hm Q)
      exact aO 4 Q (GE hm λg41 hm=>SX Q Q (cA Q Q Q Q g41) (aF 2 Q (bT [0] hm Q Q)))
     refine aI 2 Q (IE hm λv42 hm hz=>?_);rw [hz33 _ hz] at hm;exact WX (bG 1 Q (bT [0] hm Q Q))
    refine WN [] Q Q (aI 6 Q (IE hm λv43 hm hz=>?_));rw [hz1 _ hz] at hm;exact WR (aP hm Q)
   rw [if_neg h29] at hm;exact SX Q Q (qAT Q qBY Q h29 uW Q) (aJ 4 Q (TC false Q (λh=>by cases h) (λ_=>aI 2 Q (bT [] hm Q Q))))
  exact WN [0] Q Q (aI 10 Q (aP hm Q))
theorem yM {p0:Ac} {p1:(List Bool)} {r:Bool} (hm:pM p0 p1=some r):RetN TP 58 [.ptr (p0.enc) 0,.sl 1 (p1.map D.bool)] (.bool (r)):=wD aU hm
theorem pX {p0:Ac} {p1:(List Bool)} {r:Bool} (hm:iE p0 p1=some r):RetN TP 43 [p0.enc,.sl 1 (p1.map D.bool)] (.bool (r)):=by
 refine .unit (aN (bA Q) func43 Q ntmps43 Q Q (λwX gX=>?_)) Q;unfold iE at hm;exact WN [0,1] Q Q (aR 1 Q (cQ 0 Q Q Q (aJ 3 Q (qCF 0 Q Q Q Q Q (aO 2 Q (c_N hm (yM ·) Q Q Q Q λr1 hm=>aF 4 Q (aP hm Q)))))))
theorem tM {p0:Program} {r:Machine} (hm:eI p0=some r):Ret TP 31 [] (λ_=>false) ([p0.enc].map .d) (.agg [.msl 0 1 0 r.vars.length,.msl 1 1 0 r.counts.length,.d (.bool (r.halted))]) [.flat 4 1 (r.vars.map D.bool),.flat 3 1 (r.counts.map (D.int .i64))]:=by
 refine cO (bA Q) func31 Q ntmps31 Q Q (λwX gX=>?_);unfold eI at hm;refine WN [0] Q Q (aR 1 Q (cQ 0 Q Q Q (eB 1 Q Q cL Q (kO (f:=D.bool) 1 0 2 4 1 Q Q Q (kO (f:=(D.int .i64)) 1 1 3 3 1 Q Q Q (aG 5 Q (c_N hm (gR ·) Q Q Q Q λr1 hm=>aJ 3 Q (iU hm Q (λh2 hm=>?_) (λh2 hm=>?_)))))))))
 ·refine aO 1 Q (SX Q Q (iP Q oJ cL Q Q Q Q) (aG 1 Q (kO (f:=D.bool) 1 0 4 4 1 Q Q Q (kO (f:=(D.int .i64)) 1 1 5 3 1 Q Q Q (aJ 2 Q (WN [2] Q Q (aI 2 Q ?_)))))));obtain rfl:=OJ hm;exact⟨_,[4,5],.mk _ (.cons (.agg (TK.lay Q) Q Q Q Q) .nil) Q,by decide,k0,Q,Q⟩
 refine bC 2 Q (gL (gL (bI follows (DA [] TK Q (DA [0] TK Q (DX [] Q Q (aQ TK Q Q Q) (GE hm λg3 hm=>yO [4] _ (.msl 4 1 0 (List.replicate (p0.names.length:Int).toNat false).length) Q (jV Q) Q (qKC (f:=D.bool) (x:=false) TK Q Q Q iY Q Q Q Q Q g3 Q) (DA [] TK Q (DA [0] TK Q (DX [] Q Q (aQ TK Q Q Q) (GE hm λg4 hm=>yO [5] _ (.msl 5 1 0 (List.replicate (p0.Ab.length:Int).toNat (0:Int)).length) Q (jV Q) Q (qKC (f:=(D.int .i64)) (x:=(0:Int)) TK Q Q Q gK Q Q Q Q Q g4 Q) ?_)))))))))));refine DX [] Q Q (iP Q oJ cL Q Q Q Q) ?_;refine DT ?_ (by kernel_rfl);refine aJ 3 Q (WN [2] Q Q (aI 1 Q ?_));obtain rfl:=OJ hm;exact⟨_,[4,5],.mk _ (.cons (.agg (TK.lay Q) Q Q Q Q) .nil) Q,by decide,k0,Q,Q⟩
theorem vR {p0:Program} {r:Machine} (hm:lO p0=some r):Ret TP 49 [] (λ_=>false) ([p0.enc].map .d) (.agg [.msl 0 1 0 r.vars.length,.msl 1 1 0 r.counts.length,.d (.bool (r.halted))]) [.flat 4 1 (r.vars.map D.bool),.flat 3 1 (r.counts.map (D.int .i64))]:=by
 refine cO (bA Q) func49 Q ntmps49 Q Q (λwX gX=>?_);unfold lO at hm;refine WN [0] Q Q (aR 1 Q (cQ 0 Q Q Q (eB 1 Q Q cL Q (kO (f:=D.bool) 1 0 2 4 1 Q Q Q (kO (f:=(D.int .i64)) 1 1 3 3 1 Q Q Q (aG 4 Q (BE hm λr1 hr1 hm=>mF Q Q Q (tM hr1) Q Q (rI 5 (.agg [.msl 4 1 0 r1.vars.length,.msl 5 1 0 r1.counts.length,.d (.bool (r1.halted))]) Q Q (eB 6 Q Q cL Q (kO (f:=D.bool) 6 0 7 4 1 Q Q Q (kO (f:=(D.int .i64)) 6 1 8 3 1 Q Q Q (aJ 3 Q ?_))))))))))));refine WN [2,3] Q Q (bC 5 Q (WN [2,3] Q Q (bC 5 Q (WN [2] Q Q (aI 1 Q ?_)))));obtain rfl:=OJ hm;exact⟨_,[4,5],.mk _ (.cons (.agg (TK.lay Q) Q Q Q Q) .nil) Q,by decide,k0,Q,Q⟩
theorem kX {p0:(List Bool)} {r:(List Bool)} (hm:dG p0=some r):Ret TP 50 [] (λ_=>false) ([.sl 1 (p0.map D.bool)].map .d) (.msl 0 1 0 r.length) [.flat 4 1 (r.map D.bool)]:=by
 refine cO (bA Q) func50 Q ntmps50 Q Q (λwX gX=>?_);unfold dG at hm;refine WN [0] Q Q (aR 1 Q (jH (f:=D.bool) 0 4 1 Q Q Q (aG 5 Q (qBB Q Tryd.underlying40 Q Q (λb1 hb1=>aJ 2 Q (TC _ Q (λh2=>?_) (λh2=>?_)))))))
 ·obtain⟨hnb1,hm⟩:=qKJ (hb1 h2) hm;subst hnb1;refine aO 1 Q (jH (f:=D.bool) 1 4 1 Q Q Q (aF 4 Q ?_));obtain rfl:=OJ hm;exact⟨_,[1],res Q,by decide,k0,Q,Q⟩
 replace hm:=qKK hm;refine aO 3 Q (pA (f:=D.bool) 1 [] ([]:List Bool) TK Q Q Q iY Q Q Q Q Q (aG 1 Q (GE hm λg3 hm=>jQ (f:=D.bool) p0 TK Q Q iY Q Q Q Q Q (λh=>absurd h (zQV _)) Q jP g3 Q Q (aF 4 Q ?_))));obtain rfl:=OJ hm;exact⟨_,[1],res Q,by decide,k0,Q,Q⟩
theorem lF {p0:(List Int)} {r:(List Int)} (hm:dR p0=some r):Ret TP 51 [] (λ_=>false) ([.sl 1 (p0.map (D.int .i64))].map .d) (.msl 0 1 0 r.length) [.flat 3 1 (r.map (D.int .i64))]:=by
 refine cO (bA Q) func51 Q ntmps51 Q Q (λwX gX=>?_);unfold dR at hm;refine WN [0] Q Q (aR 1 Q (jH (f:=(D.int .i64)) 0 3 1 Q Q Q (aG 5 Q (qBB Q Tryd.underlying30 Q Q (λb1 hb1=>aJ 2 Q (TC _ Q (λh2=>?_) (λh2=>?_)))))))
 ·obtain⟨hnb1,hm⟩:=qKJ (hb1 h2) hm;subst hnb1;refine aO 1 Q (jH (f:=(D.int .i64)) 1 3 1 Q Q Q (aF 4 Q ?_));obtain rfl:=OJ hm;exact⟨_,[1],res Q,by decide,k0,Q,Q⟩
 replace hm:=qKK hm;refine aO 3 Q (pA (f:=(D.int .i64)) 1 [] ([]:List Int) TK Q Q Q gK Q Q Q Q Q (aG 1 Q (GE hm λg3 hm=>jQ (f:=(D.int .i64)) p0 TK Q Q gK Q Q Q Q Q (λh=>absurd h (zQV _)) Q jP g3 Q Q (aF 4 Q ?_))));obtain rfl:=OJ hm;exact⟨_,[1],res Q,by decide,k0,Q,Q⟩
theorem nK {p0:Program} {p1:Machine} {p2:(List Bool)} {r:Machine} (hm:gQ p0 p1 p2=some r):RetD TP 32 [p0.enc,p1.enc,.sl 1 (p2.map D.bool)] (r.enc):=by
 refine .of (mv:=λ_=>false) (aN (bA Q) func32 Q ntmps32 Q Q (λwX gX=>?_));unfold gQ at hm;refine WN [0,1,2] Q Q (aR 1 Q (cQ 0 Q Q Q (cQ 1 Q Q Q (eB 2 Q Q cL Q (kO (f:=D.bool) 2 0 3 4 1 Q Q Q (kO (f:=(D.int .i64)) 2 1 4 3 1 Q Q Q (aJ 2 Q (WN [2,3,4,6] Q Q (bC 1 Q (bD hm (λx1=>([(18,.d (.bool (x1)))])) (λx1=>[]) [18] [2,3,4,6] Q (λz2 hm=>?_) (λx1 hm=>?_)))))))))))
 ·refine aR 3 Q (SB TK Q (λq3 hq3=>?_));cases q3
  ·replace hm:=JB hq3 hm;exact aG 2 Q (c_N hm (zR ·) Q Q Q Q λr4 hm=>aF 3 Q (bH [0,1,2,3,4] hm Q Q))
  replace hm:=JA hq3 hm;exact aF 6 Q (bH [0,1,2,3,4] hm Q Q)
 refine WN [2,3,4,6,18] Q Q (bS hm Q (λh5 hm=>?_) (λh5 hm=>?_))
 ·refine aO 2 Q (BE hm λr6 hr6 hm=>mF Q Q Q (vR hr6) Q Q (rI 20 (.agg [.msl 5 1 0 r6.vars.length,.msl 6 1 0 r6.counts.length,.d (.bool (r6.halted))]) Q Q (aJ 3 Q (WN [6] Q Q (aI 2 Q ?_)))));obtain rfl:=OJ hm;exact EndsS.cellR _ TK Q Q Q Q Q (rD (.cons (eN Q) Q (.cons (eN Q) Q (.cons (.d _) Q .nil))))
 refine bC 2 Q (gL (gL (gL (bI follows (DA [] TK Q (DA [1] TK Q (BE hm λr7 hr7 hm=>?_)))))));refine yO [5] [(5,.flat 4 1 (r7.map D.bool))] (.msl 5 1 0 r7.length) Q (jV Q) Q (wP (Bs:=[.flat 4 1 (r7.map D.bool)]) [5] (by intro i h;simp only [zQB,List.not_mem_nil,or_false] at h;rcases h with rfl<;>rfl) (by decide) Q Q Q Q (kX hr7) (by intro B h;simp only [zQB,List.not_mem_nil,or_false] at h;rcases h with rfl<;>exact uQ (λ_=>Q)) (.msl _ _ _ _) Q (by intro B h;simp only [zQB,List.not_mem_nil,or_false] at h;rcases h with rfl<;>rfl)) ?_;refine DA [] TK Q (DA [1] TK Q (BE hm λr8 hr8 hm=>?_));refine yO [6] [(6,.flat 3 1 (r8.map (D.int .i64)))] (.msl 6 1 0 r8.length) Q (jV Q) Q (wP (Bs:=[.flat 3 1 (r8.map (D.int .i64))]) [6] (by intro i h;simp only [zQB,List.not_mem_nil,or_false] at h;rcases h with rfl<;>rfl) (by decide) Q Q Q Q (lF hr8) (by intro B h;simp only [zQB,List.not_mem_nil,or_false] at h;rcases h with rfl<;>exact uQ (λ_=>Q)) (.msl _ _ _ _) Q (by intro B h;simp only [zQB,List.not_mem_nil,or_false] at h;rcases h with rfl<;>rfl)) ?_;refine DX [] Q Q (iP Q oJ cL Q Q Q Q) (yO [7] _ (.mptr 7 0 0 0) Q (jV Q) Q (qJ Q Q cL Q Q) ?_);refine DT ?_ (by kernel_rfl);refine aJ 3 Q (WN [2,3,6,7] Q Q (bD hm (λb9=>[]) (λb9=>([(5,.flat 4 1 (b9.map D.bool)),(7,.box 42 [.msl 5 1 0 b9.length,.msl 6 1 0 r8.length,.d (.bool (false))])])) [] [3,6,7] Q (λz10 hm=>?_) (λb9 hm=>?_)))
 ·refine bY 7 Q (bL hm (λ(x14,b15)=>([(30,.d (.int .i64 x14))])) (λ(x14,b15)=>([(5,.flat 4 1 (b15.map D.bool)),(7,.box 42 [.msl 5 1 0 b15.length,.msl 6 1 0 r8.length,.d (.bool (false))])])) [30] [2,3,6,7,29] [0,1,2,3,4,5,6,7] Q k0 Q Q Q Q Q (λs z16 hm hz16=>?_));obtain⟨x14,b15⟩:=s;refine WN [2,3,6,7,29,30] Q Q (bY 5 Q (bO hm Q (λh17 hm=>?_) (λh17 hm=>?_)))
  ·refine bC 9 Q (jO follows ?_);iterate 5 (refine DA [0,1,2,3,4,5,6,7] TK Q ?_)
   refine DX [0,1,2,3,4,5,6,7] Q Q (aQ TK Q Q Q) (DA [0,1,2,3,4,5,6,7] TK Q (d_b [0,1,2,3,4,5,6,7] TK Q (λq18 hq18=>?_)));cases q18
   ·replace hm:=JF hq18 hm;iterate 5 (refine DA [0,1,2,3,4,5,6,7] TK Q ?_)
    refine VE hm λe19 he19 hm=>DX [0,1,2,3,4,5,6,7] Q Q (eL TK Q Q Q Q he19 Q) ?_;refine DT ?_ (by kernel_rfl);refine nX (x':=false) TK Q Q Q Q Q he19.2 Q Q Q (eY 34 (b15.set x14.toNat false).length Q List.length_set.symm ?_);refine tZ 7 [.msl 5 1 0 (b15.set x14.toNat false).length,.msl 6 1 0 r8.length,.d (.bool (false))] Q (by simp only [List.length_set]<;>rfl) ?_;exact aJ 3 Q (WN [2,3,6,7,29,30] Q Q (aO 1 Q (GE hm λg20 hm=>SX Q Q (cA Q Q Q Q g20) (aF 2 Q (bT [0,1,2,3,4,5,6,7] hm Q Q)))))
   replace hm:=JT hq18 hm;iterate 2 (refine DA [0,1,2,3,4,5,6,7] TK Q ?_)
   refine VE hm λe21 he21 hm=>DX [0,1,2,3,4,5,6,7] Q Q (dZ TK Q Q Q Q he21) ?_;iterate 2 (refine DA [0,1,2,3,4,5,6,7] TK Q ?_)
   refine VE hm λe22 he22 hm=>DX [0,1,2,3,4,5,6,7] Q Q (eL TK Q Q Q Q he22 Q) ?_;refine DT ?_ (by kernel_rfl);refine nX (x':=e21) TK Q Q Q Q Q he22.2 Q Q Q (eY 34 (b15.set x14.toNat e21).length Q List.length_set.symm ?_);refine tZ 7 [.msl 5 1 0 (b15.set x14.toNat e21).length,.msl 6 1 0 r8.length,.d (.bool (false))] Q (by simp only [List.length_set]<;>rfl) ?_;exact aJ 3 Q (WN [2,3,6,7,29,30] Q Q (aO 1 Q (GE hm λg23 hm=>SX Q Q (cA Q Q Q Q g23) (aF 2 Q (bT [0,1,2,3,4,5,6,7] hm Q Q)))))
  refine aI 2 Q (IE hm λv24 hm hz=>?_);rw [hz16 _ hz] at hm;exact WX (bG 1 Q (bH [0,1,2,3,4,5,6,7] hm Q Q))
 refine WN [3,6,7] Q Q (bD hm (λ(b25,b26)=>[]) (λ(b25,b26)=>([(5,.flat 4 1 (b25.map D.bool)),(6,.flat 3 1 (b26.map (D.int .i64))),(7,.box 42 [.msl 5 1 0 b25.length,.msl 6 1 0 b26.length,.d (.bool (false))])])) [] [6,7] Q (λz27 hm=>?_) (λj hm=>?_))
 ·refine aR 3 Q (SX Q Q (aQ TK Q Q Q) (aJ 4 Q (bL hm (λ(x32,b33,b34)=>([(51,.d (.int .i64 x32))])) (λ(x32,b33,b34)=>([(5,.flat 4 1 (b33.map D.bool)),(6,.flat 3 1 (b34.map (D.int .i64))),(7,.box 42 [.msl 5 1 0 b33.length,.msl 6 1 0 b34.length,.d (.bool (false))])])) [51] [6,7,49,50] [0,1,2,3,4,5,6,7] Q k0 Q Q Q Q Q (λs z35 hm hz35=>?_))));obtain⟨x32,b33,b34⟩:=s;refine WN [6,7,49,50,51] Q Q (bY 5 Q (bO hm Q (λh36 hm=>?_) (λh36 hm=>?_)))
  ·refine aO 6 Q (VE hm λe37 he37 hm=>SX Q Q (dZ TK Q Q Q Q he37) (aG 1 Q (eB 8 Q Q lA Q (dU 8 [none,none,none,none,none,some 3] Q Q (aJ 4 Q (WN [6,7,9,10,49,50,51] Q Q (jO follows (DA [] TK Q (DA [7] TK Q ?_)))))))));iterate 2 (refine DA [] TK Q ?_)
   refine DA [7] TK Q (DA [] TK Q ?_);iterate 2 (refine DA [8] TK Q ?_)
   refine qHG [] hm (rW ·) Q Q Q Q λr38 hm=>?_;iterate 2 (refine DA [] TK Q ?_)
   refine DA [7] TK Q (DA [] TK Q (VE hm λe39 he39 hm=>DX [] Q Q (eL TK Q Q Q Q he39 Q) (DX [6] Q Q (jN TK Q Q Q Q he39.2 Q) (DA [] TK Q (DA [8] TK Q (DA [] TK Q (DA [7] TK Q (BE hm λr40 hr40 hm=>DX [5] Q Q (RN Q Q (SC (.d _) (SC (eN Q) SN)) (pX hr40)) ?_))))))))
   cases h41:r38.act with
   | c60=>
    rw [h41] at hm;dsimp only at hm;refine BE hm λr42 hr42 hm=>?_;obtain⟨r43,r44⟩:=r42;refine DX [] Q Q (pD (ds:=[.int .i64 e39,.bool (r40)]) Q Q Q Q (oI hr42)) ?_;iterate 3 (refine DA [] TK Q ?_)
    refine VE hm λe45 he45 hm=>DX [] Q Q (eL TK Q Q Q Q he45 Q) (d_st 1000023 [6] [(6,.flat 3 1 ((b34.set x32.toNat r43).map (D.int .i64)))] (jV Q) Q (qEI (z':=r43) TK Q Q Q Q Q Q Q he45.2 Q Q Q) (VE hm λe46 he46 hm=>DX [] Q Q (eL TK Q Q Q Q he46 Q) ?_));refine DT ?_ (by kernel_rfl);refine eY 58 (b34.set x32.toNat r43).length Q List.length_set.symm (eY 68 (b34.set x32.toNat r43).length Q List.length_set.symm ?_);refine tZ 7 [.msl 5 1 0 b33.length,.msl 6 1 0 (b34.set x32.toNat r43).length,.d (.bool (false))] Q (by simp only [List.length_set]<;>rfl) ?_;refine nX (x':=r44) TK Q Q Q Q Q he46.2 Q Q Q (eY 61 (b33.set e37.var.toNat r44).length Q List.length_set.symm (eY 75 (b33.set e37.var.toNat r44).length Q List.length_set.symm ?_));refine tZ 7 [.msl 5 1 0 (b33.set e37.var.toNat r44).length,.msl 6 1 0 (b34.set x32.toNat r43).length,.d (.bool (false))] Q (by simp only [List.length_set]<;>rfl) ?_;exact aJ 3 Q (WN [6,7,49,50,51] Q Q (aO 1 Q (GE hm λg47 hm=>SX Q Q (cA Q Q Q Q g47) (aF 2 Q (bT [0,1,2,3,4,5,6,7] hm Q Q)))))
   | c61 u48=>
    rw [h41] at hm;dsimp only at hm;refine BE hm λr49 hr49 hm=>?_;obtain⟨r50,r51⟩:=r49;refine DX [] Q Q (pD (ds:=[.int .i64 e39,.bool (r40)]) Q Q Q Q (oG hr49)) ?_;iterate 3 (refine DA [] TK Q ?_)
    refine VE hm λe52 he52 hm=>DX [] Q Q (eL TK Q Q Q Q he52 Q) (d_st 1000024 [6] [(6,.flat 3 1 ((b34.set x32.toNat r50).map (D.int .i64)))] (jV Q) Q (qEI (z':=r50) TK Q Q Q Q Q Q Q he52.2 Q Q Q) (VE hm λe53 he53 hm=>DX [] Q Q (eL TK Q Q Q Q he53 Q) ?_));refine DT ?_ (by kernel_rfl);refine eY 58 (b34.set x32.toNat r50).length Q List.length_set.symm (eY 68 (b34.set x32.toNat r50).length Q List.length_set.symm ?_);refine tZ 7 [.msl 5 1 0 b33.length,.msl 6 1 0 (b34.set x32.toNat r50).length,.d (.bool (false))] Q (by simp only [List.length_set]<;>rfl) ?_;refine nX (x':=r51) TK Q Q Q Q Q he53.2 Q Q Q (eY 61 (b33.set e37.var.toNat r51).length Q List.length_set.symm (eY 75 (b33.set e37.var.toNat r51).length Q List.length_set.symm ?_));refine tZ 7 [.msl 5 1 0 (b33.set e37.var.toNat r51).length,.msl 6 1 0 (b34.set x32.toNat r50).length,.d (.bool (false))] Q (by simp only [List.length_set]<;>rfl) ?_;exact aJ 3 Q (WN [6,7,49,50,51] Q Q (aO 1 Q (GE hm λg54 hm=>SX Q Q (cA Q Q Q Q g54) (aF 2 Q (bT [0,1,2,3,4,5,6,7] hm Q Q)))))
  refine aI 2 Q (IE hm λv55 hm hz=>?_);rw [hz35 _ hz] at hm;exact WX (bG 1 Q (bH [0,1,2,3,4,5,6,7] hm Q Q))
 obtain⟨b25,b26⟩:=j;refine WN [6,7] Q Q (bC 5 Q (WN [6] Q Q (aI 1 Q ?_)));obtain rfl:=OJ hm;exact EndsS.cellR _ TK Q Q Q Q Q (rD (.cons (eN Q) Q (.cons (eN Q) Q (.cons (.d _) Q .nil))))
theorem oL {p0:Aa} {p1:Machine} {r:Bool} (hm:eE p0 p1=some r):RetN TP 42 [p0.enc,.ptr (p1.enc) 0] (.bool (r)):=by
 refine .unit (aN (bA Q) func42 Q ntmps42 Q Q (λwX gX=>?_)) Q;unfold eE at hm;exact WN [0,1] Q Q (aR 1 Q (cQ 0 Q Q Q (aG 8 Q (c_N hm (pX ·) Q Q Q Q λr1 hm=>aF 5 Q (aP hm Q)))))
theorem gN {p0:(List Aa)} {p1:Aa->Option Bool} {c1:D} (hf1:∀ a0 r,p1 a0=some r->∃ F cs,qDJ c1=some (F,cs)/\RetD TP F ([a0.enc]++cs) (.bool (r))) {r:Int} (hm:cE p0 p1=some r):RetN TP 41 [.sl 4 (p0.map Aa.enc),c1] (.int .i64 r):=by
 refine .unit (aN (bA Q) func41 Q ntmps41 Q Q (λwX gX=>?_)) Q;unfold cE at hm;refine WN [0,1] Q Q (bY 4 Q (bM hm (λ_=>[]) (λ_=>[]) [] [] Q (λz1 hm hz1=>?_) (λj hm=>?_)))
 ·refine aR 2 Q (SX Q Q (aQ TK Q Q Q) (aJ 4 Q (bL hm (λx3=>([(8,.d (.int .i64 x3))])) (λx3=>[]) [8] [0,1,7] [] Q k0 Q Q Q Q Q (λx3 z4 hm hz4=>WN [0,1,7,8] Q Q (bY 5 Q (bO hm Q (λh5 hm=>?_) (λh5 hm=>?_)))))))
  ·refine aO 13 Q (VE hm λe6 he6 hm=>SX Q Q (dZ TK Q Q Q Q he6) (aG 1 Q (BE hm λr7 hr7 hm=>?_)));obtain⟨Fr7,csr7,hFr7,hcr7⟩:=hf1 _ _ hr7;refine SX Q Q (qFL Q Q hFr7 Q hcr7) (aJ 2 Q (bS hm Q (λh8 hm=>?_) (λh8 hm=>?_)))
   ·refine aI 8 Q (IE hm λv9 hm hz=>?_);rw [hz4 _ hz] at hm;refine WR (bG 1 Q (IE hm λv10 hm hz=>?_));rw [hz1 _ hz] at hm;exact WR (aP hm Q)
   exact aO 4 Q (GE hm λg11 hm=>SX Q Q (cA Q Q Q Q g11) (aF 2 Q (bT [] hm Q Q)))
  refine aI 2 Q (IE hm λv12 hm hz=>?_);rw [hz4 _ hz] at hm;exact WX (bG 1 Q (bT [] hm Q Q))
 exact WN [] Q Q (aI 5 Q (aP hm Q))
theorem sA {p0:(List Aa)} {p1:Machine} {r:Int} (hm:fQ p0 p1=some r):RetN TP 26 [.sl 4 (p0.map Aa.enc),p1.enc] (.int .i64 r):=by
 refine .unit (aN (bA Q) func26 Q ntmps26 Q Q (λwX gX=>?_)) Q;unfold fQ at hm;exact WN [0,1] Q Q (aR 1 Q (cQ 0 Q Q Q (aJ 3 Q (qCF 0 Q Q Q Q Q (aO 3 Q (BE hm λr1 hr1 hm=>SX Q Q (RN Q Q (mE Q) (gN (λ_ r h=>⟨42,_,Q,(oL h).retD⟩) hr1)) (aF 4 Q (aP hm Q))))))))
theorem eZ {s0:(List BA)} {s1:Int} {s2:(List Af)} {s3:(List (List Bool))} {s4:Int} {s5:List Ad} {s6:List (BA×Bool)}:Ret TP 25 [.box 70 [.d (.sl 1 (s0.map D.str)),.d (.int .i64 s1),.d (.sl 6 (s2.map Af.enc)),.d (.sl 1 (s3.map (λ(l:List Bool)=>D.sl 1 (l.map D.bool)))),.d (.int .i64 s4),.msl 1 6 0 s5.length,.mmap 2],.flat 66 6 (s5.map Ad.enc),.map 9 4 (aT D.str D.bool s6)] (λ_=>false) [.mptr 0 0 0 0] (.fnc 38 [.mptr 3 0 0 0]) [.box 70 [.d (.sl 1 (s0.map D.str)),.d (.int .i64 s1),.d (.sl 6 (s2.map Af.enc)),.d (.sl 1 (s3.map (λ(l:List Bool)=>D.sl 1 (l.map D.bool)))),.d (.int .i64 s4),.msl 1 6 0 s5.length,.mmap 2],.flat 66 6 (s5.map Ad.enc),.map 9 4 (aT D.str D.bool s6),.box 58 [.mptr 0 0 0 0]]:=by
 refine cO (bA Q) func25 Q ntmps25 Q Q (λwX gX=>WN [0] Q Q (aR 1 Q (cQ 3 Q Q Q (aG 4 Q (SX Q Q (xJ Q) (aF 4 Q ?_))))));exact⟨_,[0,1,2,3],res Q,by decide,kB Q,Q,Q⟩
theorem kM {p0:Ah} {p1:Int} {r:(List Int)} (hm:cC p0 p1=some r):Ret TP 27 [.box 70 [.d (.sl 1 (p0.p.names.map D.str)),.d (.int .i64 p0.p.inputs),.d (.sl 6 (p0.p.Ab.map Af.enc)),.d (.sl 1 (p0.inputs.map (λ(l:List Bool)=>D.sl 1 (l.map D.bool)))),.d (.int .i64 p0.depth),.msl 1 6 0 p0.visits.length,.mmap 2],.flat 66 6 (p0.visits.map Ad.enc),.map 9 4 (aT D.str D.bool p0.seen)] (λ_=>false) [.mptr 0 0 0 0,.d (.int .i64 p1)] (.d (.sl 1 (r.map (D.int .i64)))) [.box 70 [.d (.sl 1 (p0.p.names.map D.str)),.d (.int .i64 p0.p.inputs),.d (.sl 6 (p0.p.Ab.map Af.enc)),.d (.sl 1 (p0.inputs.map (λ(l:List Bool)=>D.sl 1 (l.map D.bool)))),.d (.int .i64 p0.depth),.msl 1 6 0 p0.visits.length,.mmap 2],.flat 66 6 (p0.visits.map Ad.enc),.map 9 4 (aT D.str D.bool p0.seen)]:=by
 refine cO (bA Q) func27 Q ntmps27 Q Q (λwX gX=>?_);unfold cC at hm;refine WN [0,1] Q Q (aR 5 Q (jH (f:=(D.int .i64)) 3 3 1 Q Q Q (aJ 2 Q (bD hm (λb1=>([(5,.msl 3 1 0 b1.length)])) (λb1=>([(3,.flat 3 1 (b1.map (D.int .i64)))])) [5] [] Q (λz2 hm=>?_) (λb1 hm=>?_)))))
 ·refine bY 1 Q (bL hm (λ(at6,b7)=>([(1,.d (.int .i64 at6)),(5,.msl 3 1 0 b7.length)])) (λ(at6,b7)=>([(3,.flat 3 1 (b7.map (D.int .i64)))])) [1,5] [0] [0,1,2,3] Q (kB Q) Q Q Q Q Q (λs z8 hm hz8=>?_));obtain⟨at6,b7⟩:=s;refine WN [0,1,5] Q Q (aR 7 Q (VE hm λe9 he9 hm=>SX Q Q (eL TK Q Q Q Q he9 Q) (aG 1 Q (SX Q Q (jN TK Q Q Q Q he9.2 Q) (aJ 3 Q (bO hm Q (λh10 hm=>?_) (λh10 hm=>?_)))))))
  ·refine aO 10 Q (VE hm λe11 he11 hm=>SX Q Q (eL TK Q Q Q Q he11 Q) (aG 1 Q (SX Q Q (jN TK Q Q Q Q he11.2 Q) (SX Q Q (fV [.tmp 23] TK Q Q gK Q Q Q Q Q) (GE hm λg12 hm=>?_)))));refine jQ (f:=(D.int .i64)) ([e11.input]:List Int) TK Q Q gK Q Q Q Q Q (λh=>absurd (show 3 < 3 from h) (by decide)) Q jP g12 Q Q ?_;exact aJ 3 Q (WN [0,1,5] Q Q (aO 6 Q (VE hm λe13 he13 hm=>SX Q Q (eL TK Q Q Q Q he13 Q) (aG 1 Q (SX Q Q (jN TK Q Q Q Q he13.2 Q) (aF 3 Q (e_l [0,1,2,3] hm Q (kB Q) Q)))))))
  refine aI 2 Q (IE hm λv14 hm hz=>?_);rw [hz8 _ hz] at hm;exact WX (bG 1 Q (e_j [0,1,2,3] hm Q (kB Q) Q))
 refine WN [5] Q Q (aO 2 Q (GE hm λg15 hm=>?_));refine qII [3] Q Q Q (by simp) Q Q Q (lE b1 g15) Q Q ?_;refine eY 5 (xE b1).length Q (lJ _).symm (eY 34 (xE b1).length Q (lJ _).symm (aJ 7 Q ?_));refine qAK 4 3 [] Q Q Q Q Q (by simp) Q Q ?_;refine aI 1 Q ?_;obtain rfl:=OJ hm;exact⟨_,[0,1,2],res Q,by decide,(kB Q),Q,Q⟩
theorem dI {p0:Ah} {p1:Machine} {p2:Int} {p3:Int} {p4:Int} {r:Ah} (hm:bK p0 p1 p2 p3 p4=some r):Ret TP 39 [.box 70 [.d (.sl 1 (p0.p.names.map D.str)),.d (.int .i64 p0.p.inputs),.d (.sl 6 (p0.p.Ab.map Af.enc)),.d (.sl 1 (p0.inputs.map (λ(l:List Bool)=>D.sl 1 (l.map D.bool)))),.d (.int .i64 p0.depth),.msl 1 6 0 p0.visits.length,.mmap 2],.flat 66 6 (p0.visits.map Ad.enc),.map 9 4 (aT D.str D.bool p0.seen)] (λj=>Nat.beq j 1) [.mptr 0 0 0 0,.d (p1.enc),.d (.int .i64 p2),.d (.int .i64 p3),.d (.int .i64 p4)] (.tup []) [.box 70 [.d (.sl 1 (p0.p.names.map D.str)),.d (.int .i64 p0.p.inputs),.d (.sl 6 (p0.p.Ab.map Af.enc)),.d (.sl 1 (p0.inputs.map (λ(l:List Bool)=>D.sl 1 (l.map D.bool)))),.d (.int .i64 p0.depth),.msl 1 6 0 r.visits.length,.mmap 2],.flat 66 6 (r.visits.map Ad.enc),.map 9 4 (aT D.str D.bool r.seen)]:=by
 refine cO (bA Q) func39 Q ntmps39 Q Q (λwX gX=>?_);unfold bK at hm;refine WN [0,1,2,3,4] Q Q (aR 1 Q (cQ 3 Q Q Q (aJ 2 Q (bI follows ?_))));iterate 5 (refine DA [0,1,2,3] TK Q ?_)
 refine yR [0,1,2,3] hm (jK ·) Q Q Q Q λr1 hm=>?_;refine DT ?_ (by kernel_rfl);refine GE hm λg2 hm=>s_putE sJ D.bool qGD Q Q Q Q g2 (aJ 2 Q (jO follows ?_));iterate 9 (refine DA [0,1,2,3] TK Q ?_)
 refine DX [0,1,2,3] Q Q (cF Q plc66 oZ Q Q Q Q) (DX [0,1,2,3] Q Q (fV [.tmp 25] TK Q Q oZ Q Q Q Q Q) ?_);refine qJL 0 16 ?_ ?_ Q (by kernel_rfl) (by kernel_rfl) (by kernel_rfl)
 ·refine GE hm λg3 hm=>jQ (f:=Ad.enc) ([(⟨p1,p2,p3,p4⟩:Ad)]:List Ad) TK Q Q oZ Q Q Q Q Q (λ_=>Q) Q jP g3 Q Q (aF 4 Q ?_);obtain rfl:=OJ hm;exact⟨_,[0,1,2],res Q,by decide,(kB Q),Q,Q⟩
 refine GE hm λg4 hm=>jQ (f:=Ad.enc) ([(⟨p1,p2,p3,p4⟩:Ad)]:List Ad) TK Q Q oZ Q Q Q Q Q (λ_=>Q) Q jP g4 Q Q (aF 5 Q ?_);obtain rfl:=OJ hm;exact⟨_,[0,1,2],res Q,by decide,(kB Q),Q,Q⟩
theorem gW {s0:(List Aa)} {s1:(List Int)} {s2:Bool} {s3:Int} {s4:(List BA)} {s5:Int} {s6:(List Af)} {s7:(List (List Bool))} {s8:Int} {s9:List (BA×Bool)} {s10:List Ad} {u0:(List Aa)} {u1:(List Int)} {u2:Bool} {u3:Int} {u4:(List BA)} {u5:Int} {u6:(List Af)} {u7:(List (List Bool))} {u8:Int} {u9:List (BA×Bool)} {u10:List Ad} {i0:Int} {i1:Int} {b:Bool} (hm:cB s0 s1 s2 s3 s4 s5 s6 s7 s8 s9 s10 i0 i1=some (b,u0,u1,u2,u3,u4,u5,u6,u7,u8,u9,u10)):qDZ TP [.lp .ready none (hM Tryd.f10).1 (hM Tryd.f10).2.1 (hM Tryd.f10).2.2 46 [(5,.mptr 1 0 0 0),(8,.mptr 2 0 0 0),(9,.mptr 3 0 0 0),(10,.mptr 4 0 0 0),(11,.mptr 7 0 0 0),(26,.fnc 38 [.mptr 9 0 0 0])],.box 26 [.d (.sl 4 (s0.map Aa.enc))],.box 30 [.d (.sl 1 (s1.map (D.int .i64)))],.box 4 [.d (.bool (s2))],.box 31 [.d (.int .i64 s3)],.box 70 [.d (.sl 1 (s4.map D.str)),.d (.int .i64 s5),.d (.sl 6 (s6.map Af.enc)),.d (.sl 1 (s7.map (λ(l:List Bool)=>D.sl 1 (l.map D.bool)))),.d (.int .i64 s8),.msl 8 6 0 s10.length,.mmap 6],.map 9 4 (aT D.str D.bool s9),.box 58 [.mptr 5 0 0 0],.flat 66 6 (s10.map Ad.enc),.box 58 [.mptr 5 0 0 0]] (λ_=>false) [.d (.int .i64 i0),.d (.int .i64 i1)] (.d (.bool b)) [nE b (hM Tryd.f10).1 (hM Tryd.f10).2.1 (hM Tryd.f10).2.2 46 [(5,.mptr 1 0 0 0),(8,.mptr 2 0 0 0),(9,.mptr 3 0 0 0),(10,.mptr 4 0 0 0),(11,.mptr 7 0 0 0),(26,.fnc 38 [.mptr 9 0 0 0])],.box 26 [.d (.sl 4 (u0.map Aa.enc))],.box 30 [.d (.sl 1 (u1.map (D.int .i64)))],.box 4 [.d (.bool (u2))],.box 31 [.d (.int .i64 u3)],.box 70 [.d (.sl 1 (u4.map D.str)),.d (.int .i64 u5),.d (.sl 6 (u6.map Af.enc)),.d (.sl 1 (u7.map (λ(l:List Bool)=>D.sl 1 (l.map D.bool)))),.d (.int .i64 u8),.msl 8 6 0 u10.length,.mmap 6],.map 9 4 (aT D.str D.bool u9),.box 58 [.mptr 5 0 0 0],.flat 66 6 (u10.map Ad.enc),.box 58 [.mptr 5 0 0 0]]:=by
 refine uD Q Q Q Q (λwX gX lX=>?_);unfold cB at hm;refine nH (eJ Q (aF 2 Q (WT (eJ Q (aF 2 Q ?_)))));refine⟨Q,Q,?_⟩;refine qBO (nH (nH (eJ Q (aF 3 Q (WT (qKN hm Q (λh1 hm=>?_) (λh1 hm=>?_)))))))
 ·refine nH (eJ Q (aG 2 Q (dU 2 [some 1] Q Q (aF 3 Q (WT (yD (WR (WB ?_))))))));cases hm;exact wN [0,1,2,3,4,5,6,7,8,9] (.inr ⟨Q,Q⟩) Q (kB Q) Q Q
 refine zZ (WT (nH (qJF follows Q ?_)));iterate 6 (refine DA [0,1,2,3,4,5,6,7,8,9] TK Q ?_)
 refine VE hm λe2 he2 hm=>DX [0,1,2,3,4,5,6,7,8,9] Q Q (eL TK Q Q Q Q he2 Q) (DA [0,1,2,3,4,5,6,7,8,9] TK Q (DX [0,1,2,3,4,5,6,7,8,9] Q Q (jN TK Q Q Q Q he2.2 Q) (yR [0,1,2,3,4,5,6,7,8,9] hm (sA ·) Q Q Q Q λr3 hm=>DA [0,1,2,3,4,5,6,7,8,9] TK Q ?_)));refine DT ?_ (by kernel_rfl);refine aF 1 Q (WT (i_if hm Q (λh4 hm=>?_) (λh4 hm=>?_)))
 ·refine nH (eJ Q (aG 2 Q (BE hm λr5 hr5 hm=>?_)));refine SX Q Q (qFJ [5,8,6] ⟨Q,Q,λ_=>Q⟩ Q Q Q (by decide) Q (qAJ Q) Q Q (kM hr5)) ?_;refine aF 4 Q (WT (yD (WB ?_)));cases hm;exact wN [0,1,2,3,4,5,6,7,8,9] (.inr ⟨Q,Q⟩) Q (kB Q) Q Q
 refine zZ (WK ?_);cases hm;exact wN [0,1,2,3,4,5,6,7,8,9] (.inl ⟨Q,Q⟩) Q (kB Q) Q Q
theorem hZ {ps:Array Tmp} {asg body:Code} {n:Nat} {Y:((List Aa))->((List Int))->Bool->Int->((List BA))->Int->((List Af))->((List (List Bool)))->Int->(List (BA×Bool))->(List Ad)->Int->Int->Option (Bool×((List Aa))×((List Int))×Bool×Int×((List BA))×Int×((List Af))×((List (List Bool)))×Int×(List (BA×Bool))×(List Ad))} (hY:∀ {s0:(List Aa)} {s1:(List Int)} {s2:Bool} {s3:Int} {s4:(List BA)} {s5:Int} {s6:(List Af)} {s7:(List (List Bool))} {s8:Int} {s9:List (BA×Bool)} {s10:List Ad} {u0:(List Aa)} {u1:(List Int)} {u2:Bool} {u3:Int} {u4:(List BA)} {u5:Int} {u6:(List Af)} {u7:(List (List Bool))} {u8:Int} {u9:List (BA×Bool)} {u10:List Ad} {i0:Int} {i1:Int} {b:Bool},Y s0 s1 s2 s3 s4 s5 s6 s7 s8 s9 s10 i0 i1=some (b,u0,u1,u2,u3,u4,u5,u6,u7,u8,u9,u10)->qDZ TP [.lp .ready none ps asg body n [(5,.mptr 1 0 0 0),(8,.mptr 2 0 0 0),(9,.mptr 3 0 0 0),(10,.mptr 4 0 0 0),(11,.mptr 7 0 0 0),(26,.fnc 38 [.mptr 9 0 0 0])],.box 26 [.d (.sl 4 (s0.map Aa.enc))],.box 30 [.d (.sl 1 (s1.map (D.int .i64)))],.box 4 [.d (.bool (s2))],.box 31 [.d (.int .i64 s3)],.box 70 [.d (.sl 1 (s4.map D.str)),.d (.int .i64 s5),.d (.sl 6 (s6.map Af.enc)),.d (.sl 1 (s7.map (λ(l:List Bool)=>D.sl 1 (l.map D.bool)))),.d (.int .i64 s8),.msl 8 6 0 s10.length,.mmap 6],.map 9 4 (aT D.str D.bool s9),.box 58 [.mptr 5 0 0 0],.flat 66 6 (s10.map Ad.enc),.box 58 [.mptr 5 0 0 0]] (λ_=>false) [.d (.int .i64 i0),.d (.int .i64 i1)] (.d (.bool b)) [nE b ps asg body n [(5,.mptr 1 0 0 0),(8,.mptr 2 0 0 0),(9,.mptr 3 0 0 0),(10,.mptr 4 0 0 0),(11,.mptr 7 0 0 0),(26,.fnc 38 [.mptr 9 0 0 0])],.box 26 [.d (.sl 4 (u0.map Aa.enc))],.box 30 [.d (.sl 1 (u1.map (D.int .i64)))],.box 4 [.d (.bool (u2))],.box 31 [.d (.int .i64 u3)],.box 70 [.d (.sl 1 (u4.map D.str)),.d (.int .i64 u5),.d (.sl 6 (u6.map Af.enc)),.d (.sl 1 (u7.map (λ(l:List Bool)=>D.sl 1 (l.map D.bool)))),.d (.int .i64 u8),.msl 8 6 0 u10.length,.mmap 6],.map 9 4 (aT D.str D.bool u9),.box 58 [.mptr 5 0 0 0],.flat 66 6 (u10.map Ad.enc),.box 58 [.mptr 5 0 0 0]]) {s0:(List Aa)} {s1:(List Int)} {s2:Bool} {s3:Int} {s4:(List BA)} {s5:Int} {s6:(List Af)} {s7:(List (List Bool))} {s8:Int} {s9:List (BA×Bool)} {s10:List Ad} {u0:(List Aa)} {u1:(List Int)} {u2:Bool} {u3:Int} {u4:(List BA)} {u5:Int} {u6:(List Af)} {u7:(List (List Bool))} {u8:Int} {u9:List (BA×Bool)} {u10:List Ad} {b:Bool} (hm:dJ Y s0 s1 s2 s3 s4 s5 s6 s7 s8 s9 s10=some (b,u0,u1,u2,u3,u4,u5,u6,u7,u8,u9,u10)):Ret TP 38 [.lp .ready none ps asg body n [(5,.mptr 1 0 0 0),(8,.mptr 2 0 0 0),(9,.mptr 3 0 0 0),(10,.mptr 4 0 0 0),(11,.mptr 7 0 0 0),(26,.fnc 38 [.mptr 9 0 0 0])],.box 26 [.d (.sl 4 (s0.map Aa.enc))],.box 30 [.d (.sl 1 (s1.map (D.int .i64)))],.box 4 [.d (.bool (s2))],.box 31 [.d (.int .i64 s3)],.box 70 [.d (.sl 1 (s4.map D.str)),.d (.int .i64 s5),.d (.sl 6 (s6.map Af.enc)),.d (.sl 1 (s7.map (λ(l:List Bool)=>D.sl 1 (l.map D.bool)))),.d (.int .i64 s8),.msl 8 6 0 s10.length,.mmap 6],.map 9 4 (aT D.str D.bool s9),.box 58 [.mptr 5 0 0 0],.flat 66 6 (s10.map Ad.enc),.box 58 [.mptr 5 0 0 0]] (λj=>Nat.beq j 8) [.yld 0,.mptr 9 0 0 0] (.tup []) [nE b ps asg body n [(5,.mptr 1 0 0 0),(8,.mptr 2 0 0 0),(9,.mptr 3 0 0 0),(10,.mptr 4 0 0 0),(11,.mptr 7 0 0 0),(26,.fnc 38 [.mptr 9 0 0 0])],.box 26 [.d (.sl 4 (u0.map Aa.enc))],.box 30 [.d (.sl 1 (u1.map (D.int .i64)))],.box 4 [.d (.bool (u2))],.box 31 [.d (.int .i64 u3)],.box 70 [.d (.sl 1 (u4.map D.str)),.d (.int .i64 u5),.d (.sl 6 (u6.map Af.enc)),.d (.sl 1 (u7.map (λ(l:List Bool)=>D.sl 1 (l.map D.bool)))),.d (.int .i64 u8),.msl 8 6 0 u10.length,.mmap 6],.map 9 4 (aT D.str D.bool u9),.box 58 [.mptr 5 0 0 0],.flat 66 6 (u10.map Ad.enc),.box 58 [.mptr 5 0 0 0]]:=by
 refine cO (bA Q) func38 Q ntmps38 Q Q (λwX gX=>?_);unfold dJ at hm;refine WN [0,1] Q Q (aR 5 Q (c_D hm (lN ·) Q Q Q Q λr1 hm=>eB 10 Q Q cL Q (dU 10 [some 1,some 1,none] Q Q (aJ 3 Q (WN [0,1,3] Q Q (aO 3 Q (BE hm λr2 hr2 hm=>?_)))))));refine eV [5,8,6] (λj=>Nat.beq j 1) Q Q Q (by decide) Q Q Q Q (dI hr2) Q Q Q ?_;refine aJ 2 Q (WN [0,1] Q Q (bC 1 Q (pQ (fS 1 Q Q Q (aF 2 Q ?_)))));obtain⟨⟨b14,u3,u4,u5,u6,u7,u8,u9,u10,u11,u12,u13⟩,hr15,hm⟩:=BI hm;refine mM 0 [0,1,2,3,4,5,6,7,8,9] (λ_=>false) Q Q Q Q (by decide) Q Q Q Q (hY hr15) Q Q Q ?_;cases b14
 ·replace hm:=JB Q hm;refine fS 1 Q Q Q (aF 2 Q (hO (qE 1 Q (WN [0,1,19] Q Q ?_))));refine TC true Q (λ_=>?_) (λh=>by cases h);refine aI 2 Q ?_;cases hm;exact⟨_,[0,1,2,3,4,5,6,7,8,9],res Q,by decide,kB Q,Q,Q⟩
 replace hm:=JA Q hm;refine fS 1 Q Q Q (aF 2 Q (hO (qE 1 Q (WN [0,1,19] Q Q (TC false Q (λh=>by cases h) (λ_=>bC 7 Q (bL hm (λ(at29,c30,c31,c32,c33,c34,c35,c36,c37,c38,b39,b40)=>([(4,.d (.int .i64 at29))])) (λ(at29,c30,c31,c32,c33,c34,c35,c36,c37,c38,b39,b40)=>([(1,.box 26 [.d (.sl 4 (c30.map Aa.enc))]),(2,.box 30 [.d (.sl 1 (c31.map (D.int .i64)))]),(3,.box 4 [.d (.bool (c32))]),(4,.box 31 [.d (.int .i64 c33)]),(5,.box 70 [.d (.sl 1 (c34.map D.str)),.d (.int .i64 c35),.d (.sl 6 (c36.map Af.enc)),.d (.sl 1 (c37.map (λ(l:List Bool)=>D.sl 1 (l.map D.bool)))),.d (.int .i64 c38),.msl 8 6 0 b40.length,.mmap 6]),(6,.map 9 4 (aT D.str D.bool b39)),(8,.flat 66 6 (b40.map Ad.enc))])) [4] [0,1] [0,1,2,3,4,5,6,7,8,9] Q (kB Q) Q Q Q Q Q (λs z41 hm hz41=>?_))))))));obtain⟨at29,c30,c31,c32,c33,c34,c35,c36,c37,c38,b39,b40⟩:=s;refine WN [0,1,4] Q Q (bY 11 Q (bO hm Q (λh42 hm=>?_) (λh42 hm=>?_)))
 ·refine bC 2 Q (bM hm (λ(c43,c44,c45,c46,c47,c48,c49,c50,c51,m52,b53)=>[]) (λ(c43,c44,c45,c46,c47,c48,c49,c50,c51,m52,b53)=>([(1,.box 26 [.d (.sl 4 (c43.map Aa.enc))]),(2,.box 30 [.d (.sl 1 (c44.map (D.int .i64)))]),(3,.box 4 [.d (.bool (c45))]),(4,.box 31 [.d (.int .i64 c46)]),(5,.box 70 [.d (.sl 1 (c47.map D.str)),.d (.int .i64 c48),.d (.sl 6 (c49.map Af.enc)),.d (.sl 1 (c50.map (λ(l:List Bool)=>D.sl 1 (l.map D.bool)))),.d (.int .i64 c51),.msl 8 6 0 b53.length,.mmap 6]),(6,.map 9 4 (aT D.str D.bool m52)),(8,.flat 66 6 (b53.map Ad.enc))])) [] [0,1,4] Q (λz54 hm hz54=>?_) (λj hm=>?_))
  ·refine aR 7 Q (VE hm λe55 he55 hm=>SX Q Q (eL TK Q Q Q Q he55 Q) (SX Q Q (jN TK Q Q Q Q he55.2 Q) (eB 10 Q Q oZ Q (dU 10 [some 1,some 1,none,none,none,none] Q Q (aJ 3 Q (WN [0,1,4,5] Q Q (bC 1 Q (bI follows ?_))))))));iterate 7 (refine DA [0,1,2,3,4,5,6,7,8,9,10] TK Q ?_)
   refine DT ?_ (by kernel_rfl);refine aJ 2 Q (bO hm Q (λh56 hm=>?_) (λh56 hm=>?_))
   ·refine aI 3 Q (IE hm λv57 hm hz=>?_);rw [hz54 _ hz] at hm;refine WR (IE hm λv58 hm hz=>?_);rw [hz41 _ hz] at hm;refine WR (bG 1 Q ?_);cases hm;exact⟨_,[0,1,2,3,4,5,6,7,8,9],res Q,by decide,kB Q,Q,Q⟩
   refine aO 7 Q (SX Q Q (aQ TK Q Q Q) (aJ 3 Q (WN [0,1,4,5,46,47,48] Q Q (bC 1 Q (bL hm (λ(x72,c73,c74,c75,c76,c77,c78,c79,c80,c81,b82,b83)=>([(48,.d (.int .i64 x72))])) (λ(x72,c73,c74,c75,c76,c77,c78,c79,c80,c81,b82,b83)=>([(1,.box 26 [.d (.sl 4 (c73.map Aa.enc))]),(2,.box 30 [.d (.sl 1 (c74.map (D.int .i64)))]),(3,.box 4 [.d (.bool (c75))]),(4,.box 31 [.d (.int .i64 c76)]),(5,.box 70 [.d (.sl 1 (c77.map D.str)),.d (.int .i64 c78),.d (.sl 6 (c79.map Af.enc)),.d (.sl 1 (c80.map (λ(l:List Bool)=>D.sl 1 (l.map D.bool)))),.d (.int .i64 c81),.msl 8 6 0 b83.length,.mmap 6]),(6,.map 9 4 (aT D.str D.bool b82)),(8,.flat 66 6 (b83.map Ad.enc))])) [48] [0,1,4,5,46,47] [0,1,2,3,4,5,6,7,8,9,10] Q (kB Q) Q Q Q Q Q (λs z84 hm hz84=>?_))))));obtain⟨x72,c73,c74,c75,c76,c77,c78,c79,c80,c81,b82,b83⟩:=s;refine WN [0,1,4,5,46,47,48] Q Q (bY 5 Q (bO hm Q (λh85 hm=>?_) (λh85 hm=>?_)))
   ·refine aO 6 Q (VE hm λe86 he86 hm=>SX Q Q (dZ TK Q Q Q Q he86) (aJ 5 Q (gL (bI follows (DA [9] TK Q ?_)))));iterate 2 (refine DA [] TK Q ?_)
    refine DA [5] TK Q (DA [] TK Q (DA [10] TK Q (DA [] TK Q (qHG [] hm (nK ·) Q Q Q Q λr87 hm=>yO [11] _ (.mptr 11 0 0 0) Q (jV Q) Q (qJ Q Q cL Q Q) ?_))));refine DT ?_ (by kernel_rfl);refine aJ 3 Q (WN [0,1,4,5,6,8,46,47,48] Q Q (bC 1 Q (bI follows ?_)));iterate 5 (refine DA [0,1,2,3,4,5,6,7,8,9,10,11] TK Q ?_)
    refine yR [0,1,2,3,4,5,6,7,8,9,10,11] hm (jK ·) Q Q Q Q λr88 hm=>GE hm λg89 hm=>DX [0,1,2,3,4,5,6,7,8,9,10,11] Q Q (qAQ sJ D.bool _ _ false Q qGD iY Q Q Q Q g89) ?_;refine DT ?_ (by kernel_rfl);refine aJ 2 Q (bS hm Q (λh90 hm=>?_) (λh90 hm=>?_))
    ·exact bC 4 Q (WN [0,1,4,5,46,47,48] Q Q (aO 1 Q (GE hm λg91 hm=>SX Q Q (cA Q Q Q Q g91) (aF 2 Q (e_l [0,1,2,3,4,5,6,7,8,9,10] hm Q (kB Q) Q)))))
    refine bC 12 Q (WN [0,1,4,5,6,8,46,47,48,73] Q Q (bO hm Q (λh92 hm=>?_) (λh92 hm=>?_)))
    ·refine pQ (fS 1 Q Q Q (aF 2 Q ?_));obtain⟨⟨b104,u93,u94,u95,u96,u97,u98,u99,u100,u101,u102,u103⟩,hr105,hm⟩:=BI hm;refine mM 0 [0,1,2,3,4,5,6,7,8,9] (λ_=>false) Q Q Q Q (by decide) Q Q Q Q (hY hr105) Q Q Q ?_;cases b104
     ·replace hm:=JB Q hm;refine hO (qE 1 Q (WN [] Q Q (aI 4 Q (IE hm λv106 hm hz=>?_))));rw [hz84 _ hz] at hm;refine WR (bG 2 Q (IE hm λv107 hm hz=>?_));rw [hz54 _ hz] at hm;refine WR (IE hm λv108 hm hz=>?_);rw [hz41 _ hz] at hm;refine WR (bG 1 Q ?_);cases hm;exact⟨_,[0,1,2,3,4,5,6,7,8,9],res Q,by decide,kB Q,Q,Q⟩
     replace hm:=JA Q hm;refine hO (qE 1 Q (WN [] Q Q (aI 4 Q (IE hm λv109 hm hz=>?_))));rw [hz84 _ hz] at hm;refine WR (bG 2 Q (IE hm λv110 hm hz=>?_));rw [hz54 _ hz] at hm;refine WR (IE hm λv111 hm hz=>?_);rw [hz41 _ hz] at hm;refine WR (bG 1 Q ?_);cases hm;exact⟨_,[0,1,2,3,4,5,6,7,8,9],res Q,by decide,kB Q,Q,Q⟩
    refine aO 9 Q (GE hm λg112 hm=>SX Q Q (cA Q Q Q Q g112) (BE hm λr113 hr113 hm=>?_));refine eV [5,8,6] (λj=>Nat.beq j 1) Q Q Q (by decide) Q Q Q Q (dI hr113) Q Q Q ?_;refine aJ 2 Q (WN [0,1,4,5,46,47,48] Q Q (pQ (fS 7 Q Q Q (aG 6 Q (GE hm λg114 hm=>SX Q Q (cA Q Q Q Q g114) (aF 1 Q ?_))))));obtain⟨⟨b126,u115,u116,u117,u118,u119,u120,u121,u122,u123,u124,u125⟩,hr127,hm⟩:=BI hm;refine mM 0 [0,1,2,3,4,5,6,7,8,9] (λ_=>false) Q Q Q Q (by decide) Q Q Q Q (hY hr127) Q Q Q ?_;cases b126
    ·replace hm:=JB Q hm;refine fS 1 Q Q Q (aF 2 Q (hO (qE 1 Q (WN [0,1,4,5,46,47,48,92] Q Q ?_))));refine TC true Q (λ_=>?_) (λh=>by cases h);refine aI 3 Q (IE hm λv128 hm hz=>?_);rw [hz84 _ hz] at hm;refine WR (bG 2 Q (IE hm λv129 hm hz=>?_));rw [hz54 _ hz] at hm;refine WR (IE hm λv130 hm hz=>?_);rw [hz41 _ hz] at hm;refine WR (bG 1 Q ?_);cases hm;exact⟨_,[0,1,2,3,4,5,6,7,8,9],res Q,by decide,kB Q,Q,Q⟩
    replace hm:=JA Q hm;exact fS 1 Q Q Q (aF 2 Q (hO (qE 1 Q (WN [0,1,4,5,46,47,48,92] Q Q (TC false Q (λh=>by cases h) (λ_=>aO 4 Q (GE hm λg131 hm=>SX Q Q (cA Q Q Q Q g131) (aF 2 Q (e_l [0,1,2,3,4,5,6,7,8,9,10] hm Q (kB Q) Q)))))))))
   refine aI 2 Q (IE hm λv132 hm hz=>?_);rw [hz84 _ hz] at hm;exact WX (bG 2 Q (e_l [0,1,2,3,4,5,6,7,8,9] hm Q (kB Q) Q))
  obtain⟨c43,c44,c45,c46,c47,c48,c49,c50,c51,m52,b53⟩:=j;exact WN [0,1,4] Q Q (aO 2 Q (GE hm λg133 hm=>SX Q Q (cA Q Q Q Q g133) (aF 2 Q (e_l [0,1,2,3,4,5,6,7,8,9] hm Q (kB Q) Q))))
 refine aI 2 Q (IE hm λv134 hm hz=>?_);rw [hz41 _ hz] at hm;refine WX (bG 1 Q ?_);cases hm;exact⟨_,[0,1,2,3,4,5,6,7,8,9],res Q,by decide,kB Q,Q,Q⟩
theorem sR {p0:Program} {p1:(List Aa)} {p2:(List (List Bool))} {p3:Int} {r0:(List Int)} {r1:Bool} {r2:Int} (hm:cU p0 p1 p2 p3=some (r0,r1,r2)):Ret TP 10 [] (λ_=>false) ([p0.enc,.sl 4 (p1.map Aa.enc),.sl 1 (p2.map (λ(l:List Bool)=>D.sl 1 (l.map D.bool))),.int .i64 p3].map .d) (.tup ([.sl 1 (r0.map (D.int .i64)),.bool (r1),.int .i64 r2].map .d)) []:=by
 refine rN (bA Q) func10 Q ntmps10 Q Q (λwX gX=>?_);unfold cU at hm;refine hP [0,1,2,3] Q Q (pY (aR 1 Q (cQ 0 Q Q Q (cQ 1 Q Q Q (eB 2 Q Q zero30 Q (dU 2 [some 1] Q Q (eB 3 Q Q iY Q (eB 4 Q Q qEC Q (aF 1 Q (hP [2,3,4,5,8,9,10] Q Q (pY (aR 4 Q ?_))))))))))));obtain⟨⟨o1,r2⟩,hr2,hm⟩:=BI hm
 cases o1 with
 | none=>
  dsimp only at hm;refine mF Q Q Q (kT hr2) Q Q (rI 19 (.tup [.d .nilptr,.d (.int .i64 r2)]) Q Q (aG 3 Q (eB 5 Q Q qEB Q (aF 3 Q (hP [5,8,9,10,11,12] Q Q (pY (bY 5 Q (iU hm Q (λh4 hm=>?_) (λh4 hm=>?_)))))))))
  ·refine aO 3 Q (dU 2 [some 1] Q Q (aJ 4 Q (WN [8,9,10] Q Q (aI 1 Q (WR ?_)))));obtain⟨rfl,hmj0⟩:=Prod.mk.inj (Option.some.inj hm);obtain⟨rfl,rfl⟩:=Prod.mk.inj (hmj0);exact⟨_,.mk _ (.cons (.one (TK.lay Q) Q Q Q) (.cons (.one (TK.lay Q) Q Q Q) (.cons (.one (TK.lay Q) Q Q Q) .nil))) Q,(.cons (.d _) (.refl _) (.cons (.d _) (.refl _) (.cons (.d _) (.refl _) .nil)))⟩
  refine aI 1 Q (hP [5,8,9,10,11] Q Q (wF (aR 2 Q ?_)));cases hm
 | some q3=>
  dsimp only at hm;refine mF Q Q Q (kS hr2) Q Q (rI 19 (.tup [.mptr 5 0 0 0,.d (.int .i64 r2)]) Q Q (aG 3 Q (eB 7 Q Q qEB Q (aG 2 Q (kO (f:=Ad.enc) 5 5 8 66 6 Q Q Q (aF 1 Q (hP [5,8,9,10,11,12] Q Q (pY (bY 5 Q (iU hm Q (λh5 hm=>?_) (λh5 hm=>?_)))))))))))
  ·refine aO 3 Q (dU 2 [some 1] Q Q (aJ 4 Q (WN [8,9,10] Q Q (aI 1 Q (WR ?_)))));obtain⟨rfl,hmj0⟩:=Prod.mk.inj (Option.some.inj hm);obtain⟨rfl,rfl⟩:=Prod.mk.inj (hmj0);exact⟨_,.mk _ (.cons (.one (TK.lay Q) Q Q Q) (.cons (.one (TK.lay Q) Q Q Q) (.cons (.one (TK.lay Q) Q Q Q) .nil))) Q,(.cons (.d _) (.refl _) (.cons (.d _) (.refl _) (.cons (.d _) (.refl _) .nil)))⟩
  refine aI 1 Q (hP [5,8,9,10,11] Q Q (wF (aR 2 Q ?_)));refine eV [5,8,6] (λ_=>false) Q Q Q (by decide) Q Q Q Q eZ Q Q Q ?_;refine rI 26 (.fnc 38 [.mptr 9 0 0 0]) Q Q (aF 1 Q (qEX [5,8,9,10,11,26] Q Q ?_));obtain⟨⟨b17,u6,u7,u8,u9,u10,u11,u12,u13,u14,u15,u16⟩,hr18,hm⟩:=BI hm;cases b17
  ·replace hm:=JB Q hm;refine oS (b:=false) [11,1,2,3,4,5,6,7,8,9] (λj=>Nat.beq j 8) Q Q Q (by decide) Q Q Q Q Q Q (hZ gW hr18) Q Q Q Q (λh=>by cases h) (λ_=>?_);obtain⟨rfl,hmj0⟩:=Prod.mk.inj (Option.some.inj hm);obtain⟨rfl,rfl⟩:=Prod.mk.inj (hmj0);exact⟨_,.mk _ (.cons (.one (TK.lay Q) Q Q Q) (.cons (.one (TK.lay Q) Q Q Q) (.cons (.one (TK.lay Q) Q Q Q) .nil))) Q,(.cons (.d _) (.refl _) (.cons (.d _) (.refl _) (.cons (.d _) (.refl _) .nil)))⟩
  replace hm:=JA Q hm;refine oS (b:=true) [11,1,2,3,4,5,6,7,8,9] (λj=>Nat.beq j 8) Q Q Q (by decide) Q Q Q Q Q Q (hZ gW hr18) Q Q Q Q (λ_ wY gY dY=>?_) (λh=>by cases h);refine nH (eJ Q (aG 1 Q (dU 2 [some 1] Q Q (aF 3 Q (WT (yD ?_))))));refine⟨?_,Q⟩;obtain⟨rfl,hmj0⟩:=Prod.mk.inj (Option.some.inj hm);obtain⟨rfl,rfl⟩:=Prod.mk.inj (hmj0);exact⟨_,.mk _ (.cons (.one (TK.lay Q) Q Q Q) (.cons (.one (TK.lay Q) Q Q Q) (.cons (.one (TK.lay Q) Q Q Q) .nil))) Q,(.cons (.d _) (.refl _) (.cons (.d _) (.refl _) (.cons (.d _) (.refl _) .nil)))⟩
theorem fT {p0:Program} {p1:(List Aa)} {p2:(List (List Bool))} {p3:Int} {r0:(List Int)} {r1:Bool} {r2:Int} (hm:cU p0 p1 p2 p3=some (r0,r1,r2)):RetT TP 10 [p0.enc,.sl 4 (p1.map Aa.enc),.sl 1 (p2.map (λ(l:List Bool)=>D.sl 1 (l.map D.bool))),.int .i64 p3] [.sl 1 (r0.map (D.int .i64)),.bool (r1),.int .i64 r2]:=.of (mv:=λ_=>false) (sR hm)
theorem fW {s0:Int} {s1:Int} {s2:(List BA)} {s3:Int} {s4:(List Af)} {s5:(List (List Bool))} {s6:Int} {s7:List (BA×Bool)} {s8:List Ad} {u0:Int} {u1:Int} {u2:(List BA)} {u3:Int} {u4:(List Af)} {u5:(List (List Bool))} {u6:Int} {u7:List (BA×Bool)} {u8:List Ad} {i0:Int} {i1:Int} {b:Bool} (hm:fC s0 s1 s2 s3 s4 s5 s6 s7 s8 i0 i1=some (b,u0,u1,u2,u3,u4,u5,u6,u7,u8)):qDZ TP [.lp .ready none (hM Tryd.f13).1 (hM Tryd.f13).2.1 (hM Tryd.f13).2.2 34 [(6,.mptr 1 0 0 0),(7,.mptr 2 0 0 0),(8,.mptr 3 0 0 0),(23,.fnc 38 [.mptr 6 0 0 0])],.box 3 [.d (.int .i64 s0)],.box 31 [.d (.int .i64 s1)],.box 70 [.d (.sl 1 (s2.map D.str)),.d (.int .i64 s3),.d (.sl 6 (s4.map Af.enc)),.d (.sl 1 (s5.map (λ(l:List Bool)=>D.sl 1 (l.map D.bool)))),.d (.int .i64 s6),.msl 5 6 0 s8.length,.mmap 4],.map 9 4 (aT D.str D.bool s7),.flat 66 6 (s8.map Ad.enc),.box 58 [.mptr 3 0 0 0]] (λ_=>false) [.d (.int .i64 i0),.d (.int .i64 i1)] (.d (.bool b)) [nE b (hM Tryd.f13).1 (hM Tryd.f13).2.1 (hM Tryd.f13).2.2 34 [(6,.mptr 1 0 0 0),(7,.mptr 2 0 0 0),(8,.mptr 3 0 0 0),(23,.fnc 38 [.mptr 6 0 0 0])],.box 3 [.d (.int .i64 u0)],.box 31 [.d (.int .i64 u1)],.box 70 [.d (.sl 1 (u2.map D.str)),.d (.int .i64 u3),.d (.sl 6 (u4.map Af.enc)),.d (.sl 1 (u5.map (λ(l:List Bool)=>D.sl 1 (l.map D.bool)))),.d (.int .i64 u6),.msl 5 6 0 u8.length,.mmap 4],.map 9 4 (aT D.str D.bool u7),.flat 66 6 (u8.map Ad.enc),.box 58 [.mptr 3 0 0 0]]:=by
 refine uD Q Q Q Q (λwX gX lX=>?_);unfold fC at hm;refine eJ Q (aF 2 Q ?_);refine⟨Q,Q,?_⟩;refine qBO (nH (eJ Q (aF 3 Q (WT (qKN hm Q (λh1 hm=>?_) (λh1 hm=>?_))))))
 ·refine nH (eJ Q (aF 4 Q (WT (yD (WB ?_)))));cases hm;exact wN [0,1,2,3,4,5,6] (.inr ⟨Q,Q⟩) Q (kB Q) Q Q
 refine zZ (WK ?_);cases hm;exact wN [0,1,2,3,4,5,6] (.inl ⟨Q,Q⟩) Q (kB Q) Q Q
theorem gZ {ps:Array Tmp} {asg body:Code} {n:Nat} {Y:Int->Int->((List BA))->Int->((List Af))->((List (List Bool)))->Int->(List (BA×Bool))->(List Ad)->Int->Int->Option (Bool×Int×Int×((List BA))×Int×((List Af))×((List (List Bool)))×Int×(List (BA×Bool))×(List Ad))} (hY:∀ {s0:Int} {s1:Int} {s2:(List BA)} {s3:Int} {s4:(List Af)} {s5:(List (List Bool))} {s6:Int} {s7:List (BA×Bool)} {s8:List Ad} {u0:Int} {u1:Int} {u2:(List BA)} {u3:Int} {u4:(List Af)} {u5:(List (List Bool))} {u6:Int} {u7:List (BA×Bool)} {u8:List Ad} {i0:Int} {i1:Int} {b:Bool},Y s0 s1 s2 s3 s4 s5 s6 s7 s8 i0 i1=some (b,u0,u1,u2,u3,u4,u5,u6,u7,u8)->qDZ TP [.lp .ready none ps asg body n [(6,.mptr 1 0 0 0),(7,.mptr 2 0 0 0),(8,.mptr 3 0 0 0),(23,.fnc 38 [.mptr 6 0 0 0])],.box 3 [.d (.int .i64 s0)],.box 31 [.d (.int .i64 s1)],.box 70 [.d (.sl 1 (s2.map D.str)),.d (.int .i64 s3),.d (.sl 6 (s4.map Af.enc)),.d (.sl 1 (s5.map (λ(l:List Bool)=>D.sl 1 (l.map D.bool)))),.d (.int .i64 s6),.msl 5 6 0 s8.length,.mmap 4],.map 9 4 (aT D.str D.bool s7),.flat 66 6 (s8.map Ad.enc),.box 58 [.mptr 3 0 0 0]] (λ_=>false) [.d (.int .i64 i0),.d (.int .i64 i1)] (.d (.bool b)) [nE b ps asg body n [(6,.mptr 1 0 0 0),(7,.mptr 2 0 0 0),(8,.mptr 3 0 0 0),(23,.fnc 38 [.mptr 6 0 0 0])],.box 3 [.d (.int .i64 u0)],.box 31 [.d (.int .i64 u1)],.box 70 [.d (.sl 1 (u2.map D.str)),.d (.int .i64 u3),.d (.sl 6 (u4.map Af.enc)),.d (.sl 1 (u5.map (λ(l:List Bool)=>D.sl 1 (l.map D.bool)))),.d (.int .i64 u6),.msl 5 6 0 u8.length,.mmap 4],.map 9 4 (aT D.str D.bool u7),.flat 66 6 (u8.map Ad.enc),.box 58 [.mptr 3 0 0 0]]) {s0:Int} {s1:Int} {s2:(List BA)} {s3:Int} {s4:(List Af)} {s5:(List (List Bool))} {s6:Int} {s7:List (BA×Bool)} {s8:List Ad} {u0:Int} {u1:Int} {u2:(List BA)} {u3:Int} {u4:(List Af)} {u5:(List (List Bool))} {u6:Int} {u7:List (BA×Bool)} {u8:List Ad} {b:Bool} (hm:fK Y s0 s1 s2 s3 s4 s5 s6 s7 s8=some (b,u0,u1,u2,u3,u4,u5,u6,u7,u8)):Ret TP 38 [.lp .ready none ps asg body n [(6,.mptr 1 0 0 0),(7,.mptr 2 0 0 0),(8,.mptr 3 0 0 0),(23,.fnc 38 [.mptr 6 0 0 0])],.box 3 [.d (.int .i64 s0)],.box 31 [.d (.int .i64 s1)],.box 70 [.d (.sl 1 (s2.map D.str)),.d (.int .i64 s3),.d (.sl 6 (s4.map Af.enc)),.d (.sl 1 (s5.map (λ(l:List Bool)=>D.sl 1 (l.map D.bool)))),.d (.int .i64 s6),.msl 5 6 0 s8.length,.mmap 4],.map 9 4 (aT D.str D.bool s7),.flat 66 6 (s8.map Ad.enc),.box 58 [.mptr 3 0 0 0]] (λj=>Nat.beq j 5) [.yld 0,.mptr 6 0 0 0] (.tup []) [nE b ps asg body n [(6,.mptr 1 0 0 0),(7,.mptr 2 0 0 0),(8,.mptr 3 0 0 0),(23,.fnc 38 [.mptr 6 0 0 0])],.box 3 [.d (.int .i64 u0)],.box 31 [.d (.int .i64 u1)],.box 70 [.d (.sl 1 (u2.map D.str)),.d (.int .i64 u3),.d (.sl 6 (u4.map Af.enc)),.d (.sl 1 (u5.map (λ(l:List Bool)=>D.sl 1 (l.map D.bool)))),.d (.int .i64 u6),.msl 5 6 0 u8.length,.mmap 4],.map 9 4 (aT D.str D.bool u7),.flat 66 6 (u8.map Ad.enc),.box 58 [.mptr 3 0 0 0]]:=by
 refine cO (bA Q) func38 Q ntmps38 Q Q (λwX gX=>?_);unfold fK at hm;refine WN [0,1] Q Q (aR 5 Q (c_D hm (lN ·) Q Q Q Q λr1 hm=>eB 7 Q Q cL Q (dU 7 [some 1,some 1,none] Q Q (aJ 3 Q (WN [0,1,3] Q Q (aO 3 Q (BE hm λr2 hr2 hm=>?_)))))));refine eV [3,5,4] (λj=>Nat.beq j 1) Q Q Q (by decide) Q Q Q Q (dI hr2) Q Q Q ?_;refine aJ 2 Q (WN [0,1] Q Q (bC 1 Q (pQ (fS 1 Q Q Q (aF 2 Q ?_)))));obtain⟨⟨b12,u3,u4,u5,u6,u7,u8,u9,u10,u11⟩,hr13,hm⟩:=BI hm;refine mM 0 [0,1,2,3,4,5,6] (λ_=>false) Q Q Q Q (by decide) Q Q Q Q (hY hr13) Q Q Q ?_;cases b12
 ·replace hm:=JB Q hm;refine fS 1 Q Q Q (aF 2 Q (hO (qE 1 Q (WN [0,1,19] Q Q ?_))));refine TC true Q (λ_=>?_) (λh=>by cases h);refine aI 2 Q ?_;cases hm;exact⟨_,[0,1,2,3,4,5,6],res Q,by decide,kB Q,Q,Q⟩
 replace hm:=JA Q hm;refine fS 1 Q Q Q (aF 2 Q (hO (qE 1 Q (WN [0,1,19] Q Q (TC false Q (λh=>by cases h) (λ_=>bC 7 Q (bL hm (λ(at25,c26,c27,c28,c29,c30,c31,c32,b33,b34)=>([(4,.d (.int .i64 at25))])) (λ(at25,c26,c27,c28,c29,c30,c31,c32,b33,b34)=>([(1,.box 3 [.d (.int .i64 c26)]),(2,.box 31 [.d (.int .i64 c27)]),(3,.box 70 [.d (.sl 1 (c28.map D.str)),.d (.int .i64 c29),.d (.sl 6 (c30.map Af.enc)),.d (.sl 1 (c31.map (λ(l:List Bool)=>D.sl 1 (l.map D.bool)))),.d (.int .i64 c32),.msl 5 6 0 b34.length,.mmap 4]),(4,.map 9 4 (aT D.str D.bool b33)),(5,.flat 66 6 (b34.map Ad.enc))])) [4] [0,1] [0,1,2,3,4,5,6] Q (kB Q) Q Q Q Q Q (λs z35 hm hz35=>?_))))))));obtain⟨at25,c26,c27,c28,c29,c30,c31,c32,b33,b34⟩:=s;refine WN [0,1,4] Q Q (bY 11 Q (bO hm Q (λh36 hm=>?_) (λh36 hm=>?_)))
 ·refine bC 2 Q (bM hm (λ(c37,c38,c39,c40,c41,c42,c43,m44,b45)=>[]) (λ(c37,c38,c39,c40,c41,c42,c43,m44,b45)=>([(1,.box 3 [.d (.int .i64 c37)]),(2,.box 31 [.d (.int .i64 c38)]),(3,.box 70 [.d (.sl 1 (c39.map D.str)),.d (.int .i64 c40),.d (.sl 6 (c41.map Af.enc)),.d (.sl 1 (c42.map (λ(l:List Bool)=>D.sl 1 (l.map D.bool)))),.d (.int .i64 c43),.msl 5 6 0 b45.length,.mmap 4]),(4,.map 9 4 (aT D.str D.bool m44)),(5,.flat 66 6 (b45.map Ad.enc))])) [] [0,1,4] Q (λz46 hm hz46=>?_) (λj hm=>?_))
  ·refine aR 7 Q (VE hm λe47 he47 hm=>SX Q Q (eL TK Q Q Q Q he47 Q) (SX Q Q (jN TK Q Q Q Q he47.2 Q) (eB 7 Q Q oZ Q (dU 7 [some 1,some 1,none,none,none,none] Q Q (aJ 3 Q (WN [0,1,4,5] Q Q (bC 1 Q (bI follows ?_))))))));iterate 7 (refine DA [0,1,2,3,4,5,6,7] TK Q ?_)
   refine DT ?_ (by kernel_rfl);refine aJ 2 Q (bO hm Q (λh48 hm=>?_) (λh48 hm=>?_))
   ·refine aI 3 Q (IE hm λv49 hm hz=>?_);rw [hz46 _ hz] at hm;refine WR (IE hm λv50 hm hz=>?_);rw [hz35 _ hz] at hm;refine WR (bG 1 Q ?_);cases hm;exact⟨_,[0,1,2,3,4,5,6],res Q,by decide,kB Q,Q,Q⟩
   refine aO 7 Q (SX Q Q (aQ TK Q Q Q) (aJ 3 Q (WN [0,1,4,5,46,47,48] Q Q (bC 1 Q (bL hm (λ(x62,c63,c64,c65,c66,c67,c68,c69,b70,b71)=>([(48,.d (.int .i64 x62))])) (λ(x62,c63,c64,c65,c66,c67,c68,c69,b70,b71)=>([(1,.box 3 [.d (.int .i64 c63)]),(2,.box 31 [.d (.int .i64 c64)]),(3,.box 70 [.d (.sl 1 (c65.map D.str)),.d (.int .i64 c66),.d (.sl 6 (c67.map Af.enc)),.d (.sl 1 (c68.map (λ(l:List Bool)=>D.sl 1 (l.map D.bool)))),.d (.int .i64 c69),.msl 5 6 0 b71.length,.mmap 4]),(4,.map 9 4 (aT D.str D.bool b70)),(5,.flat 66 6 (b71.map Ad.enc))])) [48] [0,1,4,5,46,47] [0,1,2,3,4,5,6,7] Q (kB Q) Q Q Q Q Q (λs z72 hm hz72=>?_))))));obtain⟨x62,c63,c64,c65,c66,c67,c68,c69,b70,b71⟩:=s;refine WN [0,1,4,5,46,47,48] Q Q (bY 5 Q (bO hm Q (λh73 hm=>?_) (λh73 hm=>?_)))
   ·refine aO 6 Q (VE hm λe74 he74 hm=>SX Q Q (dZ TK Q Q Q Q he74) (aJ 5 Q (gL (bI follows (DA [6] TK Q ?_)))));iterate 2 (refine DA [] TK Q ?_)
    refine DA [3] TK Q (DA [] TK Q (DA [7] TK Q (DA [] TK Q (qHG [] hm (nK ·) Q Q Q Q λr75 hm=>yO [8] _ (.mptr 8 0 0 0) Q (jV Q) Q (qJ Q Q cL Q Q) ?_))));refine DT ?_ (by kernel_rfl);refine aJ 3 Q (WN [0,1,4,5,6,8,46,47,48] Q Q (bC 1 Q (bI follows ?_)));iterate 5 (refine DA [0,1,2,3,4,5,6,7,8] TK Q ?_)
    refine yR [0,1,2,3,4,5,6,7,8] hm (jK ·) Q Q Q Q λr76 hm=>GE hm λg77 hm=>DX [0,1,2,3,4,5,6,7,8] Q Q (qAQ sJ D.bool _ _ false Q qGD iY Q Q Q Q g77) ?_;refine DT ?_ (by kernel_rfl);refine aJ 2 Q (bS hm Q (λh78 hm=>?_) (λh78 hm=>?_))
    ·exact bC 4 Q (WN [0,1,4,5,46,47,48] Q Q (aO 1 Q (GE hm λg79 hm=>SX Q Q (cA Q Q Q Q g79) (aF 2 Q (e_l [0,1,2,3,4,5,6,7] hm Q (kB Q) Q)))))
    refine bC 12 Q (WN [0,1,4,5,6,8,46,47,48,73] Q Q (bO hm Q (λh80 hm=>?_) (λh80 hm=>?_)))
    ·refine pQ (fS 1 Q Q Q (aF 2 Q ?_));obtain⟨⟨b90,u81,u82,u83,u84,u85,u86,u87,u88,u89⟩,hr91,hm⟩:=BI hm;refine mM 0 [0,1,2,3,4,5,6] (λ_=>false) Q Q Q Q (by decide) Q Q Q Q (hY hr91) Q Q Q ?_;cases b90
     ·replace hm:=JB Q hm;refine hO (qE 1 Q (WN [] Q Q (aI 4 Q (IE hm λv92 hm hz=>?_))));rw [hz72 _ hz] at hm;refine WR (bG 2 Q (IE hm λv93 hm hz=>?_));rw [hz46 _ hz] at hm;refine WR (IE hm λv94 hm hz=>?_);rw [hz35 _ hz] at hm;refine WR (bG 1 Q ?_);cases hm;exact⟨_,[0,1,2,3,4,5,6],res Q,by decide,kB Q,Q,Q⟩
     replace hm:=JA Q hm;refine hO (qE 1 Q (WN [] Q Q (aI 4 Q (IE hm λv95 hm hz=>?_))));rw [hz72 _ hz] at hm;refine WR (bG 2 Q (IE hm λv96 hm hz=>?_));rw [hz46 _ hz] at hm;refine WR (IE hm λv97 hm hz=>?_);rw [hz35 _ hz] at hm;refine WR (bG 1 Q ?_);cases hm;exact⟨_,[0,1,2,3,4,5,6],res Q,by decide,kB Q,Q,Q⟩
    refine aO 9 Q (GE hm λg98 hm=>SX Q Q (cA Q Q Q Q g98) (BE hm λr99 hr99 hm=>?_));refine eV [3,5,4] (λj=>Nat.beq j 1) Q Q Q (by decide) Q Q Q Q (dI hr99) Q Q Q ?_;refine aJ 2 Q (WN [0,1,4,5,46,47,48] Q Q (pQ (fS 7 Q Q Q (aG 6 Q (GE hm λg100 hm=>SX Q Q (cA Q Q Q Q g100) (aF 1 Q ?_))))));obtain⟨⟨b110,u101,u102,u103,u104,u105,u106,u107,u108,u109⟩,hr111,hm⟩:=BI hm;refine mM 0 [0,1,2,3,4,5,6] (λ_=>false) Q Q Q Q (by decide) Q Q Q Q (hY hr111) Q Q Q ?_;cases b110
    ·replace hm:=JB Q hm;refine fS 1 Q Q Q (aF 2 Q (hO (qE 1 Q (WN [0,1,4,5,46,47,48,92] Q Q ?_))));refine TC true Q (λ_=>?_) (λh=>by cases h);refine aI 3 Q (IE hm λv112 hm hz=>?_);rw [hz72 _ hz] at hm;refine WR (bG 2 Q (IE hm λv113 hm hz=>?_));rw [hz46 _ hz] at hm;refine WR (IE hm λv114 hm hz=>?_);rw [hz35 _ hz] at hm;refine WR (bG 1 Q ?_);cases hm;exact⟨_,[0,1,2,3,4,5,6],res Q,by decide,kB Q,Q,Q⟩
    replace hm:=JA Q hm;exact fS 1 Q Q Q (aF 2 Q (hO (qE 1 Q (WN [0,1,4,5,46,47,48,92] Q Q (TC false Q (λh=>by cases h) (λ_=>aO 4 Q (GE hm λg115 hm=>SX Q Q (cA Q Q Q Q g115) (aF 2 Q (e_l [0,1,2,3,4,5,6,7] hm Q (kB Q) Q)))))))))
   refine aI 2 Q (IE hm λv116 hm hz=>?_);rw [hz72 _ hz] at hm;exact WX (bG 2 Q (e_l [0,1,2,3,4,5,6] hm Q (kB Q) Q))
  obtain⟨c37,c38,c39,c40,c41,c42,c43,m44,b45⟩:=j;exact WN [0,1,4] Q Q (aO 2 Q (GE hm λg117 hm=>SX Q Q (cA Q Q Q Q g117) (aF 2 Q (e_l [0,1,2,3,4,5,6] hm Q (kB Q) Q))))
 refine aI 2 Q (IE hm λv118 hm hz=>?_);rw [hz35 _ hz] at hm;refine WX (bG 1 Q ?_);cases hm;exact⟨_,[0,1,2,3,4,5,6],res Q,by decide,kB Q,Q,Q⟩
theorem qG {p0:Program} {p1:(List (List Bool))} {p2:Int} {r0:Int} {r1:Int} (hm:gI p0 p1 p2=some (r0,r1)):Ret TP 13 [] (λ_=>false) ([p0.enc,.sl 1 (p1.map (λ(l:List Bool)=>D.sl 1 (l.map D.bool))),.int .i64 p2].map .d) (.tup ([.int .i64 r0,.int .i64 r1].map .d)) []:=by
 refine rN (bA Q) func13 Q ntmps13 Q Q (λwX gX=>?_);unfold gI at hm;refine hP [0,1,2] Q Q (pY (aR 1 Q (cQ 0 Q Q Q (eB 1 Q Q gK Q (eB 2 Q Q qEC Q (aF 1 Q (hP [1,2,3,6,7] Q Q (pY (aR 4 Q ?_)))))))));obtain⟨⟨o1,r2⟩,hr2,hm⟩:=BI hm
 cases o1 with
 | none=>
  dsimp only at hm;refine mF Q Q Q (kT hr2) Q Q (rI 16 (.tup [.d .nilptr,.d (.int .i64 r2)]) Q Q (aF 6 Q (hP [6,7,8,9] Q Q (pY (bY 5 Q (iU hm Q (λh4 hm=>?_) (λh4 hm=>?_)))))))
  ·refine aI 7 Q (WR ?_);obtain⟨rfl,rfl⟩:=Prod.mk.inj (Option.some.inj hm);exact⟨_,.mk _ (.cons (.one (TK.lay Q) Q Q Q) (.cons (.one (TK.lay Q) Q Q Q) .nil)) Q,(.cons (.d _) (.refl _) (.cons (.d _) (.refl _) .nil))⟩
  refine aI 1 Q (hP [6,7,8] Q Q (wF (aR 2 Q ?_)));cases hm
 | some q3=>
  dsimp only at hm;refine mF Q Q Q (kS hr2) Q Q (rI 16 (.tup [.mptr 3 0 0 0,.d (.int .i64 r2)]) Q Q (aG 5 Q (kO (f:=Ad.enc) 3 5 5 66 6 Q Q Q (aF 1 Q (hP [6,7,8,9] Q Q (pY (bY 5 Q (iU hm Q (λh5 hm=>?_) (λh5 hm=>?_)))))))))
  ·refine bC 6 Q (WN [6,7] Q Q (aI 1 Q (WR ?_)));obtain⟨rfl,rfl⟩:=Prod.mk.inj (Option.some.inj hm);exact⟨_,.mk _ (.cons (.one (TK.lay Q) Q Q Q) (.cons (.one (TK.lay Q) Q Q Q) .nil)) Q,(.cons (.d _) (.refl _) (.cons (.d _) (.refl _) .nil))⟩
  refine aI 1 Q (hP [6,7,8] Q Q (wF (aR 2 Q ?_)));refine eV [3,5,4] (λ_=>false) Q Q Q (by decide) Q Q Q Q eZ Q Q Q ?_;refine rI 23 (.fnc 38 [.mptr 6 0 0 0]) Q Q (aF 1 Q (qEX [6,7,8,23] Q Q ?_));obtain⟨⟨b15,u6,u7,u8,u9,u10,u11,u12,u13,u14⟩,hr16,hm⟩:=BI hm;cases b15
  ·replace hm:=JB Q hm;refine oS (b:=false) [8,1,2,3,4,5,6] (λj=>Nat.beq j 5) Q Q Q (by decide) Q Q Q Q Q Q (gZ fW hr16) Q Q Q Q (λh=>by cases h) (λ_=>?_);obtain⟨rfl,rfl⟩:=Prod.mk.inj (Option.some.inj hm);exact⟨_,.mk _ (.cons (.one (TK.lay Q) Q Q Q) (.cons (.one (TK.lay Q) Q Q Q) .nil)) Q,(.cons (.d _) (.refl _) (.cons (.d _) (.refl _) .nil))⟩
  replace hm:=JA Q hm;refine oS (b:=true) [8,1,2,3,4,5,6] (λj=>Nat.beq j 5) Q Q Q (by decide) Q Q Q Q Q Q (gZ fW hr16) Q Q Q Q (λ_ wY gY dY=>?_) (λh=>by cases h);refine nH (eJ Q (aF 8 Q (WT (yD ?_))));refine⟨?_,Q⟩;obtain⟨rfl,rfl⟩:=Prod.mk.inj (Option.some.inj hm);exact⟨_,.mk _ (.cons (.one (TK.lay Q) Q Q Q) (.cons (.one (TK.lay Q) Q Q Q) .nil)) Q,(.cons (.d _) (.refl _) (.cons (.d _) (.refl _) .nil))⟩
theorem qH {p0:Program} {p1:(List (List Bool))} {p2:Int} {r0:Int} {r1:Int} (hm:gI p0 p1 p2=some (r0,r1)):RetT TP 13 [p0.enc,.sl 1 (p1.map (λ(l:List Bool)=>D.sl 1 (l.map D.bool))),.int .i64 p2] [.int .i64 r0,.int .i64 r1]:=.of (mv:=λ_=>false) (qG hm)
theorem pN {p0:Program} {p1:(List (List Bool))} {p2:(List Int)} {r:Machine} (hm:iR p0 p1 p2=some r):RetD TP 16 [p0.enc,.sl 1 (p1.map (λ(l:List Bool)=>D.sl 1 (l.map D.bool))),.sl 1 (p2.map (D.int .i64))] (r.enc):=by
 refine .of (mv:=λ_=>false) (aN (bA Q) func16 Q ntmps16 Q Q (λwX gX=>?_));unfold iR at hm;refine WN [0,1,2] Q Q (aR 1 Q (cQ 0 Q Q Q (eB 1 Q Q cL Q (dU 1 [some 1,some 1,none] Q Q (aG 4 Q (c_D hm (lN ·) Q Q Q Q λr1 hm=>eB 2 Q Q cL Q (dU 2 [some 1,some 1,none] Q Q (aJ 3 Q (bD hm (λ(c2,c3,c4)=>[]) (λ(c2,c3,c4)=>([(2,.box 42 [.d (.sl 1 (c2.map D.bool)),.d (.sl 1 (c3.map (D.int .i64))),.d (.bool (c4))])])) [] [6,7] Q (λz5 hm=>?_) (λj hm=>?_))))))))))
 ·refine aR 2 Q (SX Q Q (aQ TK Q Q Q) (aJ 4 Q (bL hm (λ(x11,c12,c13,c14)=>([(14,.d (.int .i64 x11))])) (λ(x11,c12,c13,c14)=>([(2,.box 42 [.d (.sl 1 (c12.map D.bool)),.d (.sl 1 (c13.map (D.int .i64))),.d (.bool (c14))])])) [14] [1,3,6,7,12,13] [0,1,2] Q k0 Q Q Q Q Q (λs z15 hm hz15=>?_))));obtain⟨x11,c12,c13,c14⟩:=s;refine WN [1,3,6,7,12,13,14] Q Q (bY 5 Q (bO hm Q (λh16 hm=>?_) (λh16 hm=>?_)))
  ·refine aO 5 Q (VE hm λe17 he17 hm=>SX Q Q (dZ TK Q Q Q Q he17) (aJ 4 Q (iZ [(25,.d (.bool (((decide ((0:Int)<=e17))&&(decide (e17 < (p1.length:Int)))))))] [25] [1,3,6,7,9,12,13,14] Q ?_ ?_)))
   ·refine aR 3 Q (SB TK Q (λq18 hq18=>?_));cases q18
    ·refine aF 6 Q ?_;exact⟨[0,1,2],Q,k0,cH (aX (aY (by first|(simp [hq18];done)|(simp only [hq18];simp))) Q) Q⟩
    refine aG 2 Q (SX Q Q (aQ TK Q Q Q) (aF 3 Q ?_));exact⟨[0,1,2],Q,k0,cH (aX (aY (by first|(simp [hq18];done)|(simp only [hq18];simp))) Q) Q⟩
   refine WN [1,3,6,7,9,12,13,14,25] Q Q (bS hm Q (λh19 hm=>?_) (λh19 hm=>?_))
   ·refine jO follows ?_;iterate 4 (refine DA [0,1,2] TK Q ?_)
    refine VE hm λe20 he20 hm=>DX [0,1,2] Q Q (dZ TK Q Q Q Q he20) (DA [0,1,2] TK Q (qHG [0,1,2] hm (nK ·) Q Q Q Q λr21 hm=>?_));refine DT ?_ (by kernel_rfl);exact aG 5 Q (GE hm λg22 hm=>SX Q Q (cA Q Q Q Q g22) (aF 2 Q (bT [0,1,2] hm Q Q)))
   exact aO 4 Q (GE hm λg23 hm=>SX Q Q (cA Q Q Q Q g23) (aF 2 Q (bT [0,1,2] hm Q Q)))
  refine aI 2 Q (IE hm λv24 hm hz=>?_);rw [hz15 _ hz] at hm;exact WX (bG 1 Q (bH [0,1,2] hm Q Q))
 obtain⟨c2,c3,c4⟩:=j;refine WN [6,7] Q Q (aI 6 Q ?_);obtain rfl:=OJ hm;exact EndsS.cellR _ TK Q Q Q Q Q (.d _)
theorem oC {p0:(List Int)} {p1:(List Int)} {r:Bool} (hm:gA p0 p1=some r):RetN TP 12 [.sl 1 (p0.map (D.int .i64)),.sl 1 (p1.map (D.int .i64))] (.bool (r)):=by
 refine .unit (aN (bA Q) func12 Q ntmps12 Q Q (λwX gX=>?_)) Q;unfold gA at hm;refine WN [0,1] Q Q (aR 7 Q (SX Q Q (aQ TK Q Q Q) (aG 1 Q (SX Q Q (aQ TK Q Q Q) (aJ 3 Q (iU hm Q (λh1 hm=>?_) (λh1 hm=>?_)))))))
 ·exact aI 6 Q (aP hm Q)
 refine bC 2 Q (bM hm (λ_=>[]) (λ_=>[]) [] [] Q (λz2 hm hz2=>?_) (λj hm=>?_))
 ·refine bY 5 Q (bL hm (λi4=>([(5,.d (.int .i64 i4))])) (λi4=>[]) [5] [0,1] [] Q k0 Q Q Q Q Q (λi4 z5 hm hz5=>WN [0,1,5] Q Q (aR 4 Q (SX Q Q (aQ TK Q Q Q) (aJ 3 Q (bO hm Q (λh6 hm=>?_) (λh6 hm=>?_)))))))
  ·refine bC 4 Q (bI follows ?_);iterate 2 (refine DA [] TK Q ?_)
   refine VE hm λe7 he7 hm=>DX [] Q Q (dZ TK Q Q Q Q he7) ?_;iterate 3 (refine DA [] TK Q ?_)
   refine VE hm λe8 he8 hm=>DX [] Q Q (dZ TK Q Q Q Q he8) ?_;iterate 2 (refine DA [] TK Q ?_)
   refine DT ?_ (by kernel_rfl);refine aJ 2 Q (iU hm Q (λh9 hm=>?_) (λh9 hm=>?_))
   ·refine bC 4 Q (WN [4] Q Q (aI 3 Q (IE hm λv10 hm hz=>?_)));rw [hz5 _ hz] at hm;refine WR (bG 1 Q (IE hm λv11 hm hz=>?_));rw [hz2 _ hz] at hm;exact WR (aP hm Q)
   exact aO 5 Q (GE hm λg12 hm=>SX Q Q (cA Q Q Q Q g12) (aF 2 Q (bT [] hm Q Q)))
  refine aI 2 Q (IE hm λv13 hm hz=>?_);rw [hz5 _ hz] at hm;exact WX (bG 1 Q (bT [] hm Q Q))
 exact WN [] Q Q (aI 5 Q (aP hm Q))
theorem nZ {p0:Machine} {p1:Machine} {r:Bool} (hm:fY p0 p1=some r):RetN TP 15 [p0.enc,p1.enc] (.bool (r)):=by
 refine .unit (aN (bA Q) func15 Q ntmps15 Q Q (λwX gX=>?_)) Q;unfold fY at hm;refine WN [0,1] Q Q (aR 1 Q (cQ 0 Q Q Q (cQ 1 Q Q Q (aJ 4 Q ?_))));refine iZ [(29,.d (.bool (((!(((p0.halted) == (p1.halted))))||((!(decide ((p0.vars.length:Int)=(p1.vars.length:Int))))||(!(decide ((p0.counts.length:Int)=(p1.counts.length:Int)))))))))] [29] [2,3] Q ?_ ?_
 ·refine aR 6 Q (SB TK Q (λq1 hq1=>?_));cases q1
  ·refine aG 2 Q (SX Q Q (aQ TK Q Q Q) (aG 2 Q (SX Q Q (aQ TK Q Q Q) (aG 2 Q (SB TK Q (λq2 hq2=>?_))))));cases q2
   ·refine aG 2 Q (SX Q Q (aQ TK Q Q Q) (aG 2 Q (SX Q Q (aQ TK Q Q Q) (aF 3 Q ?_))));exact⟨[0,1],Q,k0,cH (aX (aY (by first|(simp [hq1,hq2];done)|(simp only [hq1,hq2];simp))) Q) Q⟩
   refine aF 9 Q ?_;exact⟨[0,1],Q,k0,cH (aX (aY (by first|(simp [hq1,hq2];done)|(simp only [hq1,hq2];simp))) Q) Q⟩
  refine aF 18 Q ?_;exact⟨[0,1],Q,k0,cH (aX (aY (by first|(simp [hq1];done)|(simp only [hq1];simp))) Q) Q⟩
 refine WN [2,3,29] Q Q (bS hm Q (λh3 hm=>?_) (λh3 hm=>?_))
 ·exact aI 6 Q (aP hm Q)
 refine bC 2 Q (bM hm (λ_=>[]) (λ_=>[]) [] [2,3] Q (λz4 hm hz4=>?_) (λj hm=>?_))
 ·refine bY 5 Q (bL hm (λi6=>([(5,.d (.int .i64 i6))])) (λi6=>[]) [5] [2,3] [0,1] Q k0 Q Q Q Q Q (λi6 z7 hm hz7=>WN [2,3,5] Q Q (aR 5 Q (SX Q Q (aQ TK Q Q Q) (aJ 3 Q (bO hm Q (λh8 hm=>?_) (λh8 hm=>?_)))))))
  ·refine bC 4 Q (bI follows ?_);iterate 3 (refine DA [0,1] TK Q ?_)
   refine VE hm λe9 he9 hm=>DX [0,1] Q Q (dZ TK Q Q Q Q he9) ?_;iterate 4 (refine DA [0,1] TK Q ?_)
   refine VE hm λe10 he10 hm=>DX [0,1] Q Q (dZ TK Q Q Q Q he10) ?_;iterate 2 (refine DA [0,1] TK Q ?_)
   refine DT ?_ (by kernel_rfl);refine aJ 2 Q (WN [2,3,5,47] Q Q (bS hm Q (λh11 hm=>?_) (λh11 hm=>?_)))
   ·refine aI 7 Q (IE hm λv12 hm hz=>?_);rw [hz7 _ hz] at hm;refine WR (bG 1 Q (IE hm λv13 hm hz=>?_));rw [hz4 _ hz] at hm;exact WR (aP hm Q)
   exact aO 5 Q (GE hm λg14 hm=>SX Q Q (cA Q Q Q Q g14) (aF 2 Q (bT [0,1] hm Q Q)))
  refine aI 2 Q (IE hm λv15 hm hz=>?_);rw [hz7 _ hz] at hm;exact WX (bG 1 Q (bT [0,1] hm Q Q))
 refine WN [2,3] Q Q (bM hm (λ_=>[]) (λ_=>[]) [] [] Q (λz16 hm hz16=>?_) (λj hm=>?_))
 ·refine bY 5 Q (bL hm (λi18=>([(6,.d (.int .i64 i18))])) (λi18=>[]) [6] [2,3] [0,1] Q k0 Q Q Q Q Q (λi18 z19 hm hz19=>WN [2,3,6] Q Q (aR 5 Q (SX Q Q (aQ TK Q Q Q) (aJ 3 Q (bO hm Q (λh20 hm=>?_) (λh20 hm=>?_)))))))
  ·refine bC 4 Q (bI follows ?_);iterate 3 (refine DA [0,1] TK Q ?_)
   refine VE hm λe21 he21 hm=>DX [0,1] Q Q (dZ TK Q Q Q Q he21) ?_;iterate 4 (refine DA [0,1] TK Q ?_)
   refine VE hm λe22 he22 hm=>DX [0,1] Q Q (dZ TK Q Q Q Q he22) ?_;iterate 2 (refine DA [0,1] TK Q ?_)
   refine DT ?_ (by kernel_rfl);refine aJ 2 Q (WN [2,3,6,65] Q Q (iU hm Q (λh23 hm=>?_) (λh23 hm=>?_)))
   ·refine aI 7 Q (IE hm λv24 hm hz=>?_);rw [hz19 _ hz] at hm;refine WR (bG 1 Q (IE hm λv25 hm hz=>?_));rw [hz16 _ hz] at hm;exact WR (aP hm Q)
   exact aO 5 Q (GE hm λg26 hm=>SX Q Q (cA Q Q Q Q g26) (aF 2 Q (bT [0,1] hm Q Q)))
  refine aI 2 Q (IE hm λv27 hm hz=>?_);rw [hz19 _ hz] at hm;exact WX (bG 1 Q (bT [0,1] hm Q Q))
 exact WN [] Q Q (aI 5 Q (aP hm Q))
theorem nG  {r:Bool} (hm:gT=some r):RetN TP 9 [] (.bool (r)):=by
 refine .unit (aN (bA Q) func9 Q ntmps9 Q Q (λwX gX=>?_)) Q;unfold gT at hm;refine WN [] Q Q (aR 5 Q (SX Q Q (fV [.const (Value.bool Bool.false)] TK Q Q iY Q Q Q Q Q) (SX Q Q (fV [.const (Value.bool Bool.true)] TK Q Q iY Q Q Q Q Q) (SX Q Q (fV [.tmp 15,.tmp 16] TK Q Q zero40 Q Q Q Q Q) (aG 4 Q (c_D hm (dT ·) Q Q Q Q λr1 hm=>c_D hm (pV ·) Q Q Q Q λr2 hm=>SX Q Q (cF Q qKI uV Q Q Q Q) (SX Q Q (fV [.tmp 20] TK Q Q uV Q Q Q Q Q) (aG 4 Q (c_D hm (eF ·) Q Q Q Q λr3 hm=>aG 2 Q (BE hm λr4 hr4 hm=>?_))))))))));obtain⟨r5,r6,r7⟩:=r4;refine SX Q Q (kC Q Q Q (fT hr4)) (aJ 9 Q (WN [1,2,3,4,5] Q Q (aO 1 Q (c_D hm (eF ·) Q Q Q Q λr8 hm=>aG 2 Q (BE hm λr9 hr9 hm=>?_)))));obtain⟨r10,r11,r12⟩:=r9;refine SX Q Q (kC Q Q Q (fT hr9)) (aG 10 Q (c_D hm (eF ·) Q Q Q Q λr13 hm=>c_D hm (dT ·) Q Q Q Q λr14 hm=>c_D hm (dT ·) Q Q Q Q λr15 hm=>SX Q Q (qEF (f:=Ac.Ak) (xs:=([r14,r15]:List Ac)) [.tmp 40,.tmp 41] TK Q Q nI Q (qGW Q (pO (Ac.Ag _) (pO (Ac.Ag _) yN))) Q (uL Ac.Am) Q) (SX Q Q (cF Q qFR nI Q Q Q Q) (SX Q Q (cF Q qKI uV Q Q Q Q) (SX Q Q (fV [.tmp 44] TK Q Q uV Q Q Q Q Q) (aG 1 Q (BE hm λr16 hr16 hm=>?_)))))));obtain⟨r17,r18,r19⟩:=r16;refine SX Q Q (kC Q Q Q (fT hr16)) (aJ 9 Q (WN [1,3,4,5,7,8,9,10,11] Q Q (aO 1 Q (c_D hm (eF ·) Q Q Q Q λr20 hm=>aG 1 Q (BE hm λr21 hr21 hm=>?_)))));obtain⟨r22,r23⟩:=r21;refine SX Q Q (kC Q Q Q (qH hr21)) (aG 8 Q (c_D hm (eF ·) Q Q Q Q λr24 hm=>aG 2 Q (c_D hm (pN ·) Q Q Q Q λr25 hm=>eB 0 Q Q cL Q (dU 0 [some 1,some 1,none] Q Q (aJ 3 Q (bD hm (λx26=>([(0,.d (.bool (x26)))])) (λx26=>[]) [0] [] Q (λz27 hm=>?_) (λx26 hm=>?_)))))))
 ·refine aR 2 Q (SX Q Q (fV [.const (Value.int IntKind.i64 1),.const (Value.int IntKind.i64 1)] TK Q Q gK Q Q Q Q Q) (c_N hm (oC ·) Q Q Q Q λr28 hm=>SB TK Q (λq29 hq29=>?_)));cases q29
  ·replace hm:=JB hq29 hm;exact aF 43 Q (bH [0] hm Q Q)
  replace hm:=JA hq29 hm;refine aG 2 Q (SB TK Q (λq30 hq30=>?_));cases q30
  ·replace hm:=JB hq30 hm;exact aF 40 Q (bH [0] hm Q Q)
  replace hm:=JA hq30 hm;refine aG 3 Q (SB TK Q (λq31 hq31=>?_));cases q31
  ·replace hm:=JF hq31 hm;exact aF 36 Q (bH [0] hm Q Q)
  replace hm:=JT hq31 hm;refine aG 3 Q (SB TK Q (λq32 hq32=>?_));cases q32
  ·replace hm:=JB hq32 hm;exact aF 32 Q (bH [0] hm Q Q)
  replace hm:=JA hq32 hm;refine aG 3 Q (SB TK Q (λq33 hq33=>?_));cases q33
  ·replace hm:=JF hq33 hm;exact aF 28 Q (bH [0] hm Q Q)
  replace hm:=JT hq33 hm;refine aG 1 Q (SX Q Q (aQ TK Q Q Q) (aG 2 Q (SB TK Q (λq34 hq34=>?_))));cases q34
  ·replace hm:=JF hq34 hm;exact aF 23 Q (bH [0] hm Q Q)
  replace hm:=JT hq34 hm;refine aG 2 Q (SB TK Q (λq35 hq35=>?_));cases q35
  ·replace hm:=JB hq35 hm;exact aF 20 Q (bH [0] hm Q Q)
  replace hm:=JA hq35 hm;refine aG 3 Q (SB TK Q (λq36 hq36=>?_));cases q36
  ·replace hm:=JF hq36 hm;exact aF 16 Q (bH [0] hm Q Q)
  replace hm:=JT hq36 hm;refine aG 3 Q (SB TK Q (λq37 hq37=>?_));cases q37
  ·replace hm:=JF hq37 hm;exact aF 12 Q (bH [0] hm Q Q)
  replace hm:=JT hq37 hm;refine aG 3 Q (SB TK Q (λq38 hq38=>?_));cases q38
  ·replace hm:=JF hq38 hm;exact aF 8 Q (bH [0] hm Q Q)
  replace hm:=JT hq38 hm;exact aG 1 Q (SX Q Q (fV [.const (Value.bool Bool.true),.const (Value.bool Bool.false),.const (Value.bool Bool.true)] TK Q Q iY Q Q Q Q Q) (SX Q Q (fV [.const (Value.int IntKind.i64 0),.const (Value.int IntKind.i64 2)] TK Q Q gK Q Q Q Q Q) (SX Q Q (cF Q oJ cL Q Q Q Q) (c_N hm (nZ ·) Q Q Q Q λr39 hm=>aF 3 Q (bH [0] hm Q Q)))))
 exact WN [0] Q Q (aI 1 Q (aP hm Q))
theorem rS:∀ (fu:Nat) {p0:Ac} {r:Int} (hm:dM fu p0=some r),RetN TP 69 [p0.enc] (.int .i64 r):=by
 intro fu
 induction fu with
 | zero=>
  intro p0 r hm;unfold dM at hm;cases hm
 | succ fu ih=>
  intro p0 r hm;refine .unit (aN (bA Q) func69 Q ntmps69 Q Q (λwX gX=>?_)) Q;unfold dM at hm;refine WN [0] Q Q (aR 1 Q (cQ 0 Q Q Q (aJ 7 Q (bD hm (λd1=>([(3,.d (.int .i64 d1))])) (λd1=>[]) [3] [] Q (λz2 hm=>?_) (λd1 hm=>?_)))))
  ·refine bY 5 Q (bL hm (λ(d5,i6)=>([(3,.d (.int .i64 d5)),(4,.d (.int .i64 i6))])) (λ(d5,i6)=>[]) [3,4] [1] [0] Q k0 Q Q Q Q Q (λs z7 hm hz7=>?_));obtain⟨d5,i6⟩:=s;refine WN [1,3,4] Q Q (aR 5 Q (SX Q Q (aQ TK Q Q Q) (aJ 3 Q (bO hm Q (λh8 hm=>?_) (λh8 hm=>?_)))))
   ·exact aO 9 Q (VE hm λe9 he9 hm=>SX Q Q (mW TK Q Q Q Q he9 (Ac.Ag _)) (aG 1 Q (c_N hm (ih ·) Q Q Q Q λr10 hm=>SX Q Q (rd_max Q Q Q Q) (aG 6 Q (GE hm λg11 hm=>SX Q Q (cA Q Q Q Q g11) (aF 2 Q (bT [0] hm Q Q)))))))
   refine aI 2 Q (IE hm λv12 hm hz=>?_);rw [hz7 _ hz] at hm;exact WX (bG 1 Q (bH [0] hm Q Q))
  exact WN [3] Q Q (aO 2 Q (GE hm λg13 hm=>SX Q Q (cA Q Q Q Q g13) (aF 4 Q (aP hm Q))))
theorem tL {p0:Ac} {r:Int} (hm:jE p0=some r):RetN TP 69 [p0.enc] (.int .i64 r):=rS aU hm
theorem tH:∀ (fu:Nat) {p0:Ac} {p1:Int} {r:Bool} (hm:dH fu p0 p1=some r),RetN TP 70 [p0.enc,.int .i64 p1] (.bool (r)):=by
 intro fu
 induction fu with
 | zero=>
  intro p0 p1 r hm;unfold dH at hm;cases hm
 | succ fu ih=>
  intro p0 p1 r hm;refine .unit (aN (bA Q) func70 Q ntmps70 Q Q (λwX gX=>?_)) Q;unfold dH at hm;refine WN [0,1] Q Q (aR 1 Q (cQ 0 Q Q Q (aG 6 Q (SX Q Q (aQ TK Q Q Q) (aJ 3 Q (bM hm (λ_=>[]) (λ_=>[]) [] [1,2,5] Q (λz1 hm hz1=>?_) (λj hm=>?_)))))))
  ·refine bY 6 Q (bD hm (λx2=>([(12,.d (.bool (x2)))])) (λx2=>[]) [12] [1,2,5,11] Q (λz3 hm=>?_) (λx2 hm=>?_))
   ·refine bY 5 Q (bO hm Q (λh4 hm=>?_) (λh4 hm=>?_))
    ·exact aI 1 Q (bH [0] hm Q Q)
    exact aI 4 Q (bH [0] hm Q Q)
   refine WN [1,2,5,11,12] Q Q (bS hm Q (λh5 hm=>?_) (λh5 hm=>?_))
   ·refine iZ [(4,.d (.bool (((decide (p0.var=(0:Int)))&&(decide ((p0.args.length:Int)=(0:Int)))))))] [4] [] Q ?_ ?_
    ·refine aR 4 Q (SB TK Q (λq6 hq6=>?_));cases q6
     ·refine aF 5 Q ?_;exact⟨[0],Q,k0,cH (aX (aY (by first|(simp [hq6];done)|(simp only [hq6];simp))) Q) Q⟩
     refine aF 5 Q ?_;exact⟨[0],Q,k0,cH (aX (aY (by first|(simp [hq6];done)|(simp only [hq6];simp))) Q) Q⟩
    refine WN [4] Q Q (aI 2 Q (IE hm λv7 hm hz=>?_));rw [hz1 _ hz] at hm;exact WR (aP hm Q)
   refine bC 5 Q (bO hm Q (λh8 hm=>?_) (λh8 hm=>?_))
   ·refine iZ [(4,.d (.bool (((decide ((0:Int)<=p0.var))&&((decide (p0.var < p1))&&(decide ((p0.args.length:Int)=(0:Int))))))))] [4] [] Q ?_ ?_
    ·refine aR 4 Q (SB TK Q (λq9 hq9=>?_));cases q9
     ·refine aF 11 Q ?_;exact⟨[0],Q,k0,cH (aX (aY (by first|(simp [hq9];done)|(simp only [hq9];simp))) Q) Q⟩
     refine aG 5 Q (SB TK Q (λq10 hq10=>?_));cases q10
     ·refine aF 5 Q ?_;exact⟨[0],Q,k0,cH (aX (aY (by first|(simp [hq9,hq10];done)|(simp only [hq9,hq10];simp))) Q) Q⟩
     refine aF 5 Q ?_;exact⟨[0],Q,k0,cH (aX (aY (by first|(simp [hq9,hq10];done)|(simp only [hq9,hq10];simp))) Q) Q⟩
    refine WN [4] Q Q (aI 2 Q (IE hm λv11 hm hz=>?_));rw [hz1 _ hz] at hm;exact WR (aP hm Q)
   refine bC 5 Q (bO hm Q (λh12 hm=>?_) (λh12 hm=>?_))
   ·refine bC 5 Q (iU hm Q (λh13 hm=>?_) (λh13 hm=>?_))
    ·refine aI 6 Q (IE hm λv14 hm hz=>?_);rw [hz1 _ hz] at hm;exact WR (aP hm Q)
    exact aI 2 Q (bT [0] hm Q Q)
   refine bC 6 Q (bO hm Q (λh15 hm=>?_) (λh15 hm=>?_))
   ·exact bC 2 Q (qAU Q true h15 (aI 2 Q (bT [0] hm Q Q)))
   refine bC 5 Q (bO hm Q (λh16 hm=>?_) (λh16 hm=>?_))
   ·exact aI 2 Q (bT [0] hm Q Q)
   refine aI 6 Q (IE hm λv17 hm hz=>?_);rw [hz1 _ hz] at hm;exact WR (aP hm Q)
  refine WN [1,2,5] Q Q (bM hm (λ_=>[]) (λ_=>[]) [] [2] Q (λz18 hm hz18=>?_) (λj hm=>?_))
  ·refine bY 5 Q (bL hm (λi20=>([(6,.d (.int .i64 i20))])) (λi20=>[]) [6] [1,2,5] [0] Q k0 Q Q Q Q Q (λi20 z21 hm hz21=>WN [1,2,5,6] Q Q (bY 7 Q (bO hm Q (λh22 hm=>?_) (λh22 hm=>?_)))))
   ·refine aO 8 Q (VE hm λe23 he23 hm=>SX Q Q (mW TK Q Q Q Q he23 (Ac.Ag _)) (aG 2 Q (c_N hm (ih ·) Q Q Q Q λr24 hm=>aJ 3 Q (bS hm Q (λh25 hm=>?_) (λh25 hm=>?_)))))
    ·refine bC 4 Q (WN [4] Q Q (aI 3 Q (IE hm λv26 hm hz=>?_)));rw [hz21 _ hz] at hm;refine WR (bG 1 Q (IE hm λv27 hm hz=>?_));rw [hz18 _ hz] at hm;exact WR (aP hm Q)
    exact aO 5 Q (GE hm λg28 hm=>SX Q Q (cA Q Q Q Q g28) (aF 2 Q (bT [0] hm Q Q)))
   refine aI 2 Q (IE hm λv29 hm hz=>?_);rw [hz21 _ hz] at hm;exact WX (bG 1 Q (bT [0] hm Q Q))
  exact WN [2] Q Q (aI 8 Q (aP hm Q))
theorem vM {p0:Ac} {p1:Int} {r:Bool} (hm:kH p0 p1=some r):RetN TP 70 [p0.enc,.int .i64 p1] (.bool (r)):=tH aU hm
theorem tI {p0:Ac} {p1:Int} {r:Bool} (hm:gP p0 p1=some r):RetN TP 66 [p0.enc,.int .i64 p1] (.bool (r)):=by
 refine .unit (aN (bA Q) func66 Q ntmps66 Q Q (λwX gX=>?_)) Q;unfold gP at hm;refine WN [0,1] Q Q (aR 1 Q (cQ 0 Q Q Q (aJ 3 Q (bD hm (λx1=>([(4,.d (.bool (x1)))])) (λx1=>[]) [4] [] Q (λz2 hm=>?_) (λx1 hm=>?_)))))
 ·refine aR 2 Q (c_N hm (oA ·) Q Q Q Q λr3 hm=>aG 1 Q (SB TK Q (λq4 hq4=>?_)));cases q4
  ·replace hm:=JF hq4 hm;exact aF 11 Q (bH [0] hm Q Q)
  replace hm:=JT hq4 hm;refine aG 1 Q (c_N hm (tL ·) Q Q Q Q λr5 hm=>aG 2 Q (SB TK Q (λq6 hq6=>?_)));cases q6
  ·replace hm:=JF hq6 hm;exact aF 6 Q (bH [0] hm Q Q)
  replace hm:=JT hq6 hm;exact aG 2 Q (c_N hm (vM ·) Q Q Q Q λr7 hm=>aF 3 Q (bH [0] hm Q Q))
 exact WN [4] Q Q (aI 1 Q (aP hm Q))
theorem vI {p0:Program} {p1:Af} {r:Bool} (hm:iL p0 p1=some r):RetN TP 59 [p0.enc,p1.enc] (.bool (r)):=by
 refine .unit (aN (bA Q) func59 Q ntmps59 Q Q (λwX gX=>?_)) Q;unfold iL at hm;refine WN [0,1] Q Q (aR 1 Q (cQ 0 Q Q Q (cQ 1 Q Q Q (aJ 4 Q ?_))));refine iZ [(27,.d (.bool ((bif !(decide (p1.kind=(1:Int))) then ((!(decide (p1.kind=(2:Int))))||((decide (p1.var < p0.inputs))||(decide ((p0.names.length:Int)<=p1.var)))) else ((decide (p1.var < p0.inputs))||(decide ((p0.names.length:Int)<=p1.var)))))))] [27] [2,3] Q ?_ ?_
 ·refine aR 4 Q (SB TK Q (λq1 hq1=>?_));cases q1
  ·refine aG 11 Q (SB TK Q (λq2 hq2=>?_));cases q2
   ·refine aG 4 Q (SX Q Q (aQ TK Q Q Q) (aF 3 Q ?_));exact⟨[0,1],Q,k0,cH (aX (aY (by first|(simp [hq1,hq2];done)|(simp only [hq1,hq2];simp))) Q) Q⟩
   refine aF 8 Q ?_;exact⟨[0,1],Q,k0,cH (aX (aY (by first|(simp [hq1,hq2];done)|(simp only [hq1,hq2];simp))) Q) Q⟩
  refine aG 4 Q (SB TK Q (λq3 hq3=>?_));cases q3
  ·refine aG 6 Q (SB TK Q (λq4 hq4=>?_));cases q4
   ·refine aG 4 Q (SX Q Q (aQ TK Q Q Q) (aF 3 Q ?_));exact⟨[0,1],Q,k0,cH (aX (aY (by first|(simp [hq1,hq3,hq4];done)|(simp only [hq1,hq3,hq4];simp))) Q) Q⟩
   refine aF 8 Q ?_;exact⟨[0,1],Q,k0,cH (aX (aY (by first|(simp [hq1,hq3,hq4];done)|(simp only [hq1,hq3,hq4];simp))) Q) Q⟩
  refine aF 15 Q ?_;exact⟨[0,1],Q,k0,cH (aX (aY (by first|(simp [hq1,hq3];done)|(simp only [hq1,hq3];simp))) Q) Q⟩
 refine WN [2,3,27] Q Q (bS hm Q (λh5 hm=>?_) (λh5 hm=>?_))
 ·exact aI 6 Q (aP hm Q)
 refine bC 3 Q ?_;refine iZ [(50,.d (.bool ((bif decide (p1.kind=(1:Int)) then ((!(decide (p1.Ae=(0:Int))))||((decide (p1.kind=(2:Int)))&&((decide (p1.Ae < (1:Int)))||(decide ((1073741824:Int) < p1.Ae))))) else ((decide (p1.kind=(2:Int)))&&((decide (p1.Ae < (1:Int)))||(decide ((1073741824:Int) < p1.Ae))))))))] [50] [2,3] Q ?_ ?_
 ·refine aR 4 Q (SB TK Q (λq6 hq6=>?_));cases q6
  ·refine aG 8 Q (SB TK Q (λq7 hq7=>?_));cases q7
   ·refine aF 11 Q ?_;exact⟨[0,1],Q,k0,cH (aX (aY (by first|(simp [hq6,hq7];done)|(simp only [hq6,hq7];simp))) Q) Q⟩
   refine aG 3 Q (SB TK Q (λq8 hq8=>?_));cases q8
   ·refine aF 7 Q ?_;exact⟨[0,1],Q,k0,cH (aX (aY (by first|(simp [hq6,hq7,hq8];done)|(simp only [hq6,hq7,hq8];simp))) Q) Q⟩
   refine aF 7 Q ?_;exact⟨[0,1],Q,k0,cH (aX (aY (by first|(simp [hq6,hq7,hq8];done)|(simp only [hq6,hq7,hq8];simp))) Q) Q⟩
  refine aG 4 Q (SB TK Q (λq9 hq9=>?_));cases q9
  ·refine aG 3 Q (SB TK Q (λq10 hq10=>?_));cases q10
   ·refine aF 11 Q ?_;exact⟨[0,1],Q,k0,cH (aX (aY (by first|(simp [hq6,hq9,hq10];done)|(simp only [hq6,hq9,hq10];simp))) Q) Q⟩
   refine aG 3 Q (SB TK Q (λq11 hq11=>?_));cases q11
   ·refine aF 7 Q ?_;exact⟨[0,1],Q,k0,cH (aX (aY (by first|(simp [hq6,hq9,hq10,hq11];done)|(simp only [hq6,hq9,hq10,hq11];simp))) Q) Q⟩
   refine aF 7 Q ?_;exact⟨[0,1],Q,k0,cH (aX (aY (by first|(simp [hq6,hq9,hq10,hq11];done)|(simp only [hq6,hq9,hq10,hq11];simp))) Q) Q⟩
  refine aF 15 Q ?_;exact⟨[0,1],Q,k0,cH (aX (aY (by first|(simp [hq6,hq9];done)|(simp only [hq6,hq9];simp))) Q) Q⟩
 refine WN [2,3,50] Q Q (bS hm Q (λh12 hm=>?_) (λh12 hm=>?_))
 ·exact aI 6 Q (aP hm Q)
 exact aO 7 Q (SX Q Q (aQ TK Q Q Q) (c_N hm (tI ·) Q Q Q Q λr13 hm=>aF 4 Q (aP hm Q)))
theorem jI {p0:Program} {r:Int} (hm:eP p0=some r):RetN TP 45 [p0.enc] (.int .i64 r):=by
 refine .unit (aN (bA Q) func45 Q ntmps45 Q Q (λwX gX=>?_)) Q;unfold eP at hm;refine WN [0] Q Q (aR 1 Q (cQ 0 Q Q Q (aG 7 Q (SX Q Q (aQ TK Q Q Q) (aJ 3 Q (bO hm Q (λh1 hm=>?_) (λh1 hm=>?_)))))))
 ·exact aI 6 Q (aP hm Q)
 refine bC 3 Q ?_;refine iZ [(20,.d (.bool (((decide (p0.inputs < (0:Int)))||(decide ((p0.names.length:Int) < p0.inputs))))))] [20] [1] Q ?_ ?_
 ·refine aR 4 Q (SB TK Q (λq2 hq2=>?_));cases q2
  ·refine aG 4 Q (SX Q Q (aQ TK Q Q Q) (aF 3 Q ?_));exact⟨[0],Q,k0,cH (aX (aY (by first|(simp [hq2];done)|(simp only [hq2];simp))) Q) Q⟩
  refine aF 8 Q ?_;exact⟨[0],Q,k0,cH (aX (aY (by first|(simp [hq2];done)|(simp only [hq2];simp))) Q) Q⟩
 refine WN [1,20] Q Q (bS hm Q (λh3 hm=>?_) (λh3 hm=>?_))
 ·exact aI 6 Q (aP hm Q)
 refine bC 2 Q (bM hm (λ_=>[]) (λ_=>[]) [] [1] Q (λz4 hm hz4=>?_) (λj hm=>?_))
 ·refine bY 5 Q (bL hm (λi6=>([(3,.d (.int .i64 i6))])) (λi6=>[]) [3] [1] [0] Q k0 Q Q Q Q Q (λi6 z7 hm hz7=>WN [1,3] Q Q (aR 5 Q (SX Q Q (aQ TK Q Q Q) (aJ 3 Q (bO hm Q (λh8 hm=>?_) (λh8 hm=>?_)))))))
  ·refine bC 4 Q (bI follows ?_);iterate 4 (refine DA [0] TK Q ?_)
   refine VE hm λe9 he9 hm=>DX [0] Q Q (dZ TK Q Q Q Q he9) (DA [0] TK Q (yR [0] hm (vI ·) Q Q Q Q λr10 hm=>DA [0] TK Q ?_));refine DT ?_ (by kernel_rfl);refine aJ 2 Q (bS hm Q (λh11 hm=>?_) (λh11 hm=>?_))
   ·refine bC 4 Q (WN [2] Q Q (aI 3 Q (IE hm λv12 hm hz=>?_)));rw [hz7 _ hz] at hm;refine WR (bG 1 Q (IE hm λv13 hm hz=>?_));rw [hz4 _ hz] at hm;exact WR (aP hm Q)
   exact aO 5 Q (GE hm λg14 hm=>SX Q Q (cA Q Q Q Q g14) (aF 2 Q (bT [0] hm Q Q)))
  refine aI 2 Q (IE hm λv15 hm hz=>?_);rw [hz7 _ hz] at hm;exact WX (bG 1 Q (bT [0] hm Q Q))
 refine WN [1] Q Q (bM hm (λ_=>[]) (λ_=>[]) [] [] Q (λz16 hm hz16=>?_) (λj hm=>?_))
 ·refine bY 5 Q (bL hm (λi18=>([(4,.d (.int .i64 i18))])) (λi18=>[]) [4] [1] [0] Q k0 Q Q Q Q Q (λi18 z19 hm hz19=>WN [1,4] Q Q (aR 5 Q (SX Q Q (aQ TK Q Q Q) (aJ 3 Q (bO hm Q (λh20 hm=>?_) (λh20 hm=>?_)))))))
  ·refine bC 2 Q (bM hm (λ_=>[]) (λ_=>[]) [] [1,4] Q (λz21 hm hz21=>?_) (λj hm=>?_))
   ·refine bY 6 Q (bL hm (λk23=>([(5,.d (.int .i64 k23))])) (λk23=>[]) [5] [1,4] [0] Q k0 Q Q Q Q Q (λk23 z24 hm hz24=>WN [1,4,5] Q Q (bY 7 Q (bO hm Q (λh25 hm=>?_) (λh25 hm=>?_)))))
    ·refine bC 4 Q (bI follows ?_);iterate 3 (refine DA [0] TK Q ?_)
     refine VE hm λe26 he26 hm=>DX [0] Q Q (dZ TK Q Q Q Q he26) ?_;iterate 5 (refine DA [0] TK Q ?_)
     refine VE hm λe27 he27 hm=>DX [0] Q Q (dZ TK Q Q Q Q he27) ?_;iterate 3 (refine DA [0] TK Q ?_)
     refine DT ?_ (by kernel_rfl);refine aJ 2 Q (WN [1,4,5,60] Q Q (bO hm Q (λh28 hm=>?_) (λh28 hm=>?_)))
     ·refine aI 7 Q (IE hm λv29 hm hz=>?_);rw [hz24 _ hz] at hm;refine WR (bG 2 Q (IE hm λv30 hm hz=>?_));rw [hz21 _ hz] at hm;refine WR (IE hm λv31 hm hz=>?_);rw [hz19 _ hz] at hm;refine WR (bG 1 Q (IE hm λv32 hm hz=>?_));rw [hz16 _ hz] at hm;exact WR (aP hm Q)
     exact aO 5 Q (GE hm λg33 hm=>SX Q Q (cA Q Q Q Q g33) (aF 2 Q (bT [0] hm Q Q)))
    refine aI 2 Q (IE hm λv34 hm hz=>?_);rw [hz24 _ hz] at hm;exact WX (bG 2 Q (bT [0] hm Q Q))
   exact WN [1,4] Q Q (aO 2 Q (GE hm λg35 hm=>SX Q Q (cA Q Q Q Q g35) (aF 2 Q (bT [0] hm Q Q))))
  refine aI 2 Q (IE hm λv36 hm hz=>?_);rw [hz19 _ hz] at hm;exact WX (bG 1 Q (bT [0] hm Q Q))
 exact WN [] Q Q (aI 5 Q (aP hm Q))
theorem tE {p0:Program} {p1:(List (List Bool))} {p2:Int} {r:Bool} (hm:gO p0 p1 p2=some r):RetN TP 28 [p0.enc,.sl 1 (p1.map (λ(l:List Bool)=>D.sl 1 (l.map D.bool))),.int .i64 p2] (.bool (r)):=by
 refine .unit (aN (bA Q) func28 Q ntmps28 Q Q (λwX gX=>?_)) Q;unfold gO at hm;refine WN [0,1,2] Q Q (aR 1 Q (cQ 0 Q Q Q (aJ 3 Q (bD hm (λx1=>([(6,.d (.bool (x1)))])) (λx1=>[]) [6] [] Q (λz2 hm=>?_) (λx1 hm=>?_)))))
 ·refine aR 2 Q (c_N hm (jI ·) Q Q Q Q λr3 hm=>aG 1 Q (SB TK Q (λq4 hq4=>?_)));cases q4
  ·replace hm:=kL hq4 hm;refine aG 1 Q (SX Q Q (aQ TK Q Q Q) (aG 2 Q (SB TK Q (λq5 hq5=>?_))));cases q5
   ·replace hm:=JF hq5 hm;refine aG 3 Q (SB TK Q (λq6 hq6=>?_));cases q6
    ·replace hm:=JF hq6 hm;exact aF 5 Q (bH [0] hm Q Q)
    replace hm:=JT hq6 hm;exact aF 5 Q (bH [0] hm Q Q)
   replace hm:=JT hq5 hm;exact aF 9 Q (bH [0] hm Q Q)
  replace hm:=kK hq4 hm;exact aF 14 Q (bH [0] hm Q Q)
 exact WN [6] Q Q (aI 1 Q (aP hm Q))
theorem nB {p0:Program} {r:Machine} (hm:fM p0=some r):RetD TP 33 [p0.enc] (r.enc):=by
 refine .of (mv:=λ_=>false) (aN (bA Q) func33 Q ntmps33 Q Q (λwX gX=>?_));unfold fM at hm;refine WN [0] Q Q (aR 1 Q (cQ 0 Q Q Q (eB 1 Q Q cL Q (dU 1 [some 1,some 1,none] Q Q (aG 5 Q (c_N hm (jI ·) Q Q Q Q λr1 hm=>aJ 3 Q (iU hm Q (λh2 hm=>?_) (λh2 hm=>?_))))))))
 ·refine aO 1 Q (SX Q Q (cF Q oJ cL Q Q Q Q) (qIG 6 [some 1,some 1,none] Q (aF 5 Q ?_)));obtain rfl:=OJ hm;exact EndsS.cellR _ TK Q Q Q Q Q (.d _)
 refine bC 2 Q (bI follows ?_);iterate 2 (refine DA [0,1] TK Q ?_)
 refine DX [0,1] Q Q (aQ TK Q Q Q) (GE hm λg3 hm=>DX [0,1] Q Q (vA (f:=D.bool) (x:=false) TK Q Q iY Q Q Q Q Q g3 Q) ?_);iterate 2 (refine DA [0,1] TK Q ?_)
 refine DX [0,1] Q Q (aQ TK Q Q Q) (GE hm λg4 hm=>DX [0,1] Q Q (vA (f:=(D.int .i64)) (x:=(0:Int)) TK Q Q gK Q Q Q Q Q g4 Q) (DX [0,1] Q Q (cF Q oJ cL Q Q Q Q) ?_));refine DT ?_ (by kernel_rfl);refine aF 4 Q ?_;obtain rfl:=OJ hm;exact EndsS.cellR _ TK Q Q Q Q Q (.d _)
theorem tK:∀ (fu:Nat) {p0:Ac} {p1:(List Bool)} {r:Bool} (hm:cS fu p0 p1=some r),RetN TP 47 [p0.enc,.sl 1 (p1.map D.bool)] (.bool (r)):=by
 intro fu
 induction fu with
 | zero=>
  intro p0 p1 r hm;unfold cS at hm;cases hm
 | succ fu ih=>
  intro p0 p1 r hm;refine .unit (aN (bA Q) func47 Q ntmps47 Q Q (λwX gX=>?_)) Q;unfold cS at hm;refine WN [0,1] Q Q (aR 1 Q (cQ 0 Q Q Q (aJ 3 Q (bM hm (λ_=>[]) (λ_=>[]) [] [] Q (λz1 hm hz1=>?_) (λj hm=>?_)))))
  ·refine bY 11 Q (bO hm Q (λh2 hm=>?_) (λh2 hm=>?_))
   ·refine aI 6 Q (IE hm λv3 hm hz=>?_);rw [hz1 _ hz] at hm;exact WR (aP hm Q)
   refine bC 5 Q (bO hm Q (λh4 hm=>?_) (λh4 hm=>?_))
   ·refine bD hm (λx5=>([(4,.d (.bool (x5)))])) (λx5=>[]) [4] [] Q (λz6 hm=>?_) (λx5 hm=>?_)
    ·refine aR 4 Q (SB TK Q (λq7 hq7=>?_));cases q7
     ·replace hm:=JF hq7 hm;exact aF 15 Q (bH [0] hm Q Q)
     replace hm:=JT hq7 hm;refine aG 3 Q (SX Q Q (aQ TK Q Q Q) (aG 2 Q (SB TK Q (λq8 hq8=>?_))));cases q8
     ·replace hm:=JF hq8 hm;exact aF 8 Q (bH [0] hm Q Q)
     replace hm:=JT hq8 hm;exact aG 3 Q (VE hm λe9 he9 hm=>SX Q Q (dZ TK Q Q Q Q he9) (aF 4 Q (bH [0] hm Q Q)))
    refine WN [4] Q Q (aI 2 Q (IE hm λv10 hm hz=>?_));rw [hz1 _ hz] at hm;exact WR (aP hm Q)
   refine bC 5 Q (bO hm Q (λh11 hm=>?_) (λh11 hm=>?_))
   ·refine bD hm (λx12=>([(4,.d (.bool (x12)))])) (λx12=>[]) [4] [] Q (λz13 hm=>?_) (λx12 hm=>?_)
    ·refine aR 3 Q (SX Q Q (aQ TK Q Q Q) (aG 1 Q (SB TK Q (λq14 hq14=>?_))));cases q14
     ·replace hm:=JF hq14 hm;exact aF 10 Q (bH [0] hm Q Q)
     replace hm:=JT hq14 hm;exact aG 2 Q (VE hm λe15 he15 hm=>SX Q Q (mW TK Q Q Q Q he15 (Ac.Ag _)) (aG 2 Q (c_N hm (ih ·) Q Q Q Q λr16 hm=>aF 4 Q (bH [0] hm Q Q))))
    refine WN [4] Q Q (aI 2 Q (IE hm λv17 hm hz=>?_));rw [hz1 _ hz] at hm;exact WR (aP hm Q)
   refine bD hm (λx18=>([(44,.d (.bool (x18)))])) (λx18=>[]) [44] [1,2] Q (λz19 hm=>?_) (λx18 hm=>?_)
   ·refine bY 5 Q (bO hm Q (λh20 hm=>?_) (λh20 hm=>?_))
    ·exact aI 1 Q (bH [0] hm Q Q)
    exact aI 4 Q (bH [0] hm Q Q)
   refine WN [1,2,44] Q Q (bS hm Q (λh21 hm=>?_) (λh21 hm=>?_))
   ·refine bM hm (λ_=>[]) (λ_=>[]) [] [2] Q (λz22 hm hz22=>?_) (λj hm=>?_)
    ·refine bY 5 Q (bL hm (λi24=>([(5,.d (.int .i64 i24))])) (λi24=>[]) [5] [1,2] [0] Q k0 Q Q Q Q Q (λi24 z25 hm hz25=>WN [1,2,5] Q Q (aR 5 Q (SX Q Q (aQ TK Q Q Q) (aJ 3 Q (bO hm Q (λh26 hm=>?_) (λh26 hm=>?_)))))))
     ·refine bC 4 Q (bI follows ?_);iterate 3 (refine DA [0] TK Q ?_)
      refine VE hm λe27 he27 hm=>DX [0] Q Q (mW TK Q Q Q Q he27 (Ac.Ag _)) ?_;iterate 2 (refine DA [0] TK Q ?_)
      refine yR [0] hm (ih ·) Q Q Q Q λr28 hm=>?_;iterate 4 (refine DA [0] TK Q ?_)
      refine DT ?_ (by kernel_rfl);refine aJ 2 Q (WN [1,2,5,64] Q Q (bS hm Q (λh29 hm=>?_) (λh29 hm=>?_)))
      ·refine aI 10 Q (IE hm λv30 hm hz=>?_);rw [hz25 _ hz] at hm;refine WR (bG 1 Q (IE hm λv31 hm hz=>?_));rw [hz22 _ hz] at hm;refine WR (bG 1 Q (IE hm λv32 hm hz=>?_));rw [hz1 _ hz] at hm;exact WR (aP hm Q)
      exact aO 5 Q (GE hm λg33 hm=>SX Q Q (cA Q Q Q Q g33) (aF 2 Q (bT [0] hm Q Q)))
     refine aI 2 Q (IE hm λv34 hm hz=>?_);rw [hz25 _ hz] at hm;exact WX (bG 1 Q (bT [0] hm Q Q))
    refine WN [2] Q Q (aI 9 Q (IE hm λv35 hm hz=>?_));rw [hz1 _ hz] at hm;exact WR (aP hm Q)
   exact aI 2 Q (bT [0] hm Q Q)
  exact WN [] Q Q (aI 5 Q (aP hm Q))
theorem oB {p0:Ac} {p1:(List Bool)} {r:Bool} (hm:iO p0 p1=some r):RetN TP 47 [p0.enc,.sl 1 (p1.map D.bool)] (.bool (r)):=tK aU hm
theorem fX {p0:(List Aa)} {p1:Machine} {r:Bool} (hm:bX p0 p1=some r):RetN TP 30 [.sl 4 (p0.map Aa.enc),p1.enc] (.bool (r)):=by
 refine .unit (aN (bA Q) func30 Q ntmps30 Q Q (λwX gX=>?_)) Q;unfold bX at hm;refine WN [0,1] Q Q (aR 1 Q (cQ 0 Q Q Q (aJ 3 Q (bM hm (λ_=>[]) (λ_=>[]) [] [] Q (λz1 hm hz1=>?_) (λj hm=>?_)))))
 ·refine bY 5 Q (bL hm (λi3=>([(5,.d (.int .i64 i3))])) (λi3=>[]) [5] [0,3] [0] Q k0 Q Q Q Q Q (λi3 z4 hm hz4=>WN [0,3,5] Q Q (aR 4 Q (SX Q Q (aQ TK Q Q Q) (aJ 3 Q (bO hm Q (λh5 hm=>?_) (λh5 hm=>?_)))))))
  ·refine bC 4 Q (bI follows ?_);iterate 2 (refine DA [0] TK Q ?_)
   refine VE hm λe6 he6 hm=>DX [0] Q Q (dZ TK Q Q Q Q he6) ?_;iterate 4 (refine DA [0] TK Q ?_)
   refine yR [0] hm (oB ·) Q Q Q Q λr7 hm=>DA [0] TK Q ?_;refine DT ?_ (by kernel_rfl);refine aJ 2 Q (bS hm Q (λh8 hm=>?_) (λh8 hm=>?_))
   ·refine bC 4 Q (WN [4] Q Q (aI 3 Q (IE hm λv9 hm hz=>?_)));rw [hz4 _ hz] at hm;refine WR (bG 1 Q (IE hm λv10 hm hz=>?_));rw [hz1 _ hz] at hm;exact WR (aP hm Q)
   exact aO 5 Q (GE hm λg11 hm=>SX Q Q (cA Q Q Q Q g11) (aF 2 Q (bT [0] hm Q Q)))
  refine aI 2 Q (IE hm λv12 hm hz=>?_);rw [hz4 _ hz] at hm;exact WX (bG 1 Q (bT [0] hm Q Q))
 exact WN [] Q Q (aI 5 Q (aP hm Q))
theorem vL {p0:Program} {p1:Machine} {r:Bool} (hm:iN p0 p1=some r):RetN TP 53 [p0.enc,p1.enc] (.bool (r)):=by
 refine .unit (aN (bA Q) func53 Q ntmps53 Q Q (λwX gX=>?_)) Q;unfold iN at hm;refine WN [0,1] Q Q (aR 1 Q (cQ 0 Q Q Q (cQ 1 Q Q Q (aJ 4 Q (bD hm (λx1=>([(26,.d (.bool (x1)))])) (λx1=>[]) [26] [2,3] Q (λz2 hm=>?_) (λx1 hm=>?_))))))
 ·refine aR 2 Q (c_N hm (jI ·) Q Q Q Q λr3 hm=>aG 1 Q (SB TK Q (λq4 hq4=>?_)));cases q4
  ·replace hm:=kL hq4 hm;refine aG 2 Q (SX Q Q (aQ TK Q Q Q) (aG 2 Q (SX Q Q (aQ TK Q Q Q) (aG 2 Q (SB TK Q (λq5 hq5=>?_))))));cases q5
   ·replace hm:=kL hq5 hm;exact aG 2 Q (SX Q Q (aQ TK Q Q Q) (aG 2 Q (SX Q Q (aQ TK Q Q Q) (aF 3 Q (bH [0,1] hm Q Q)))))
   replace hm:=kK hq5 hm;exact aF 9 Q (bH [0,1] hm Q Q)
  replace hm:=kK hq4 hm;exact aF 18 Q (bH [0,1] hm Q Q)
 refine WN [2,3,26] Q Q (bS hm Q (λh6 hm=>?_) (λh6 hm=>?_))
 ·exact aI 6 Q (aP hm Q)
 refine bC 2 Q (bM hm (λ_=>[]) (λ_=>[]) [] [] Q (λz7 hm hz7=>?_) (λj hm=>?_))
 ·refine bY 5 Q (bL hm (λi9=>([(5,.d (.int .i64 i9))])) (λi9=>[]) [5] [2,3] [0,1] Q k0 Q Q Q Q Q (λi9 z10 hm hz10=>WN [2,3,5] Q Q (aR 5 Q (SX Q Q (aQ TK Q Q Q) (aJ 3 Q (bO hm Q (λh11 hm=>?_) (λh11 hm=>?_)))))))
  ·refine bC 4 Q (bD hm (λx12=>([(53,.d (.bool (x12)))])) (λx12=>[]) [53] [2,3,5] Q (λz13 hm=>?_) (λx12 hm=>?_))
   ·refine tU follows ?_;iterate 3 (refine DA [0,1] TK Q ?_)
    refine VE hm λe14 he14 hm=>DX [0,1] Q Q (dZ TK Q Q Q Q he14) ?_;iterate 2 (refine DA [0,1] TK Q ?_)
    refine d_b [0,1] TK Q (λq15 hq15=>?_);cases q15
    ·replace hm:=JF hq15 hm;iterate 3 (refine DA [0,1] TK Q ?_)
     refine VE hm λe16 he16 hm=>DX [0,1] Q Q (dZ TK Q Q Q Q he16) ?_;iterate 4 (refine DA [0,1] TK Q ?_)
     refine VE hm λe17 he17 hm=>DX [0,1] Q Q (dZ TK Q Q Q Q he17) ?_;iterate 4 (refine DA [0,1] TK Q ?_)
     refine DT ?_ (by kernel_rfl);exact aF 1 Q (bH [0,1] hm Q Q)
    replace hm:=JT hq15 hm;iterate 13 (refine DA [0,1] TK Q ?_)
    refine DT ?_ (by kernel_rfl);exact aF 1 Q (bH [0,1] hm Q Q)
   refine WN [2,3,5,53] Q Q (bS hm Q (λh18 hm=>?_) (λh18 hm=>?_))
   ·refine aI 7 Q (IE hm λv19 hm hz=>?_);rw [hz10 _ hz] at hm;refine WR (bG 1 Q (IE hm λv20 hm hz=>?_));rw [hz7 _ hz] at hm;exact WR (aP hm Q)
   exact aO 5 Q (GE hm λg21 hm=>SX Q Q (cA Q Q Q Q g21) (aF 2 Q (bT [0,1] hm Q Q)))
  refine aI 2 Q (IE hm λv22 hm hz=>?_);rw [hz10 _ hz] at hm;exact WX (bG 1 Q (bT [0,1] hm Q Q))
 exact WN [] Q Q (aI 5 Q (aP hm Q))
theorem vK {p0:Program} {r:Machine} (hm:iM p0=some r):RetD TP 54 [p0.enc] (r.enc):=by
 refine .of (mv:=λ_=>false) (aN (bA Q) func54 Q ntmps54 Q Q (λwX gX=>?_));unfold iM at hm;refine WN [0] Q Q (aR 1 Q (cQ 0 Q Q Q (eB 1 Q Q cL Q (dU 1 [some 1,some 1,none] Q Q (aG 4 Q (c_D hm (nB ·) Q Q Q Q λr1 hm=>eB 2 Q Q cL Q (dU 2 [some 1,some 1,none] Q Q (aF 14 Q ?_))))))));obtain rfl:=OJ hm;exact EndsS.cellR _ TK Q Q Q Q Q (.d _)
theorem vJ {p0:Program} {p1:Machine} {p2:(List Bool)} {r:Machine} (hm:dL p0 p1 p2=some r):RetD TP 34 [p0.enc,p1.enc,.sl 1 (p2.map D.bool)] (r.enc):=by
 refine .of (mv:=λ_=>false) (aN (bA Q) func34 Q ntmps34 Q Q (λwX gX=>?_));unfold dL at hm;refine WN [0,1,2] Q Q (aR 1 Q (cQ 0 Q Q Q (cQ 1 Q Q Q (eB 2 Q Q cL Q (dU 2 [some 1,some 1,none] Q Q (aJ 3 Q (bD hm (λx1=>([(21,.d (.bool (x1)))])) (λx1=>[]) [21] [2,3,4,6] Q (λz2 hm=>?_) (λx1 hm=>?_))))))))
 ·refine aR 3 Q (c_N hm (vL ·) Q Q Q Q λr3 hm=>aG 1 Q (SB TK Q (λq4 hq4=>?_)));cases q4
  ·replace hm:=JB hq4 hm;exact aF 4 Q (bH [0,1,2] hm Q Q)
  replace hm:=JA hq4 hm;exact aF 4 Q (bH [0,1,2] hm Q Q)
 refine WN [2,3,4,6,21] Q Q (bS hm Q (λh5 hm=>?_) (λh5 hm=>?_))
 ·refine aO 2 Q (c_D hm (vK ·) Q Q Q Q λr6 hm=>aF 5 Q ?_);obtain rfl:=OJ hm;exact EndsS.cellR _ TK Q Q Q Q Q (.d _)
 refine aO 3 Q (pA (f:=D.bool) 3 [] ([]:List Bool) TK Q Q Q iY Q Q Q Q Q (aG 2 Q (GE hm λg7 hm=>jQ (f:=D.bool) p1.vars TK Q Q iY Q Q Q Q Q (λh=>absurd h (zQV _)) Q jP g7 Q Q (aG 4 Q (pA (f:=(D.int .i64)) 4 [] ([]:List Int) TK Q Q Q gK Q Q Q Q Q (aG 2 Q (GE hm λg8 hm=>jQ (f:=(D.int .i64)) p1.counts TK Q Q gK Q Q Q Q Q (λh=>absurd h (zQV _)) Q jP g8 Q Q (aJ 3 Q (WN [2,3,6,7,8] Q Q (bD hm (λb9=>([(7,.msl 3 1 0 b9.length)])) (λb9=>([(3,.flat 4 1 (b9.map D.bool))])) [7] [3,6,8] Q (λz10 hm=>?_) (λb9 hm=>?_)))))))))))
 ·refine bY 5 Q (bL hm (λ(i14,b15)=>([(7,.msl 3 1 0 b15.length),(9,.d (.int .i64 i14))])) (λ(i14,b15)=>([(3,.flat 4 1 (b15.map D.bool))])) [7,9] [2,3,6,8] [0,1,2,3,4] Q k0 Q Q Q Q Q (λs z16 hm hz16=>?_));obtain⟨i14,b15⟩:=s;refine WN [2,3,6,7,8,9] Q Q (bY 8 Q (bO hm Q (λh17 hm=>?_) (λh17 hm=>?_)))
  ·refine aO 9 Q (SX Q Q (aQ TK Q Q Q) (aG 1 Q (SB TK Q (λq18 hq18=>?_))));cases q18
   ·replace hm:=JF hq18 hm;exact aG 5 Q (VE hm λe19 he19 hm=>SX Q Q (eL TK Q Q Q Q he19 Q) (nX (x':=false) TK Q Q Q Q Q he19.2 Q Q Q (eY 7 (b15.set i14.toNat false).length Q List.length_set.symm (eY 38 (b15.set i14.toNat false).length Q List.length_set.symm (aJ 3 Q (WN [2,3,6,7,8,9] Q Q (aO 2 Q (GE hm λg20 hm=>SX Q Q (cA Q Q Q Q g20) (aF 2 Q (bT [0,1,2,3,4] hm Q Q))))))))))
   replace hm:=JT hq18 hm;refine aG 2 Q (VE hm λe21 he21 hm=>SX Q Q (dZ TK Q Q Q Q he21) (aG 2 Q (VE hm λe22 he22 hm=>SX Q Q (eL TK Q Q Q Q he22 Q) (nX (x':=e21) TK Q Q Q Q Q he22.2 Q Q Q (eY 7 (b15.set i14.toNat e21).length Q List.length_set.symm (eY 38 (b15.set i14.toNat e21).length Q List.length_set.symm (aJ 3 Q (WN [2,3,6,7,8,9] Q Q (aO 2 Q (GE hm λg23 hm=>SX Q Q (cA Q Q Q Q g23) ?_))))))))));exact aF 2 Q (bT [0,1,2,3,4] hm Q Q)
  refine aI 2 Q (IE hm λv24 hm hz=>?_);rw [hz16 _ hz] at hm;exact WX (bG 1 Q (bH [0,1,2,3,4] hm Q Q))
 refine WN [3,6,7,8] Q Q (bD hm (λ(b25,b26)=>([(7,.msl 3 1 0 b25.length),(8,.msl 4 1 0 b26.length)])) (λ(b25,b26)=>([(3,.flat 4 1 (b25.map D.bool)),(4,.flat 3 1 (b26.map (D.int .i64)))])) [7,8] [6] Q (λz27 hm=>?_) (λj hm=>?_))
 ·refine bY 5 Q (bL hm (λ(i32,b33,b34)=>([(7,.msl 3 1 0 b33.length),(8,.msl 4 1 0 b34.length),(10,.d (.int .i64 i32))])) (λ(i32,b33,b34)=>([(3,.flat 4 1 (b33.map D.bool)),(4,.flat 3 1 (b34.map (D.int .i64)))])) [7,8,10] [3,6] [0,1,2,3,4] Q k0 Q Q Q Q Q (λs z35 hm hz35=>?_));obtain⟨i32,b33,b34⟩:=s;refine WN [3,6,7,8,10] Q Q (aR 5 Q (SX Q Q (aQ TK Q Q Q) (aJ 3 Q (bO hm Q (λh36 hm=>?_) (λh36 hm=>?_)))))
  ·refine aO 8 Q (VE hm λe37 he37 hm=>SX Q Q (dZ TK Q Q Q Q he37) (aG 1 Q (eB 5 Q Q lA Q (dU 5 [none,none,none,none,none,some 3] Q Q (aJ 3 Q (WN [3,6,7,8,10,11] Q Q (aO 4 Q (BE hm λr38 hr38 hm=>SX Q Q (RN Q Q (SC (.d _) (SC (eN Q) SN)) (oB hr38)) (aJ 3 Q (bD hm (λ(value39,b40)=>([(8,.msl 4 1 0 b40.length),(12,.d (.bool (value39)))])) (λ(value39,b40)=>([(4,.flat 3 1 (b40.map (D.int .i64)))])) [8,12] [3,6,7,10,11] Q (λz41 hm=>?_) (λj hm=>?_)))))))))))
   ·refine bY 6 Q (bO hm Q (λh42 hm=>?_) (λh42 hm=>?_))
    ·refine bC 4 Q (bD hm (λn43=>([(13,.d (.int .i64 n43))])) (λn43=>[]) [13] [3,6,7,8,10,11] Q (λz44 hm=>?_) (λn43 hm=>?_))
     ·refine bY 4 Q (bS hm Q (λh45 hm=>?_) (λh45 hm=>?_))
      ·refine jO follows ?_;iterate 2 (refine DA [0,1,2,3,4,5] TK Q ?_)
       refine VE hm λe46 he46 hm=>DX [0,1,2,3,4,5] Q Q (eL TK Q Q Q Q he46 Q) (DX [0,1,2,3,4,5] Q Q (jN TK Q Q Q Q he46.2 Q) (GE hm λg47 hm=>DX [0,1,2,3,4,5] Q Q (cA Q Q Q Q g47) ?_));iterate 2 (refine DA [0,1,2,3,4,5] TK Q ?_)
       refine DX [0,1,2,3,4,5] Q Q (rd_min Q Q Q Q) ?_;refine DT ?_ (by kernel_rfl);exact aF 2 Q (bH [0,1,2,3,4,5] hm Q Q)
      exact aI 1 Q (bH [0,1,2,3,4,5] hm Q Q)
     exact WN [3,6,7,8,10,11,13] Q Q (aO 4 Q (VE hm λe48 he48 hm=>SX Q Q (eL TK Q Q Q Q he48 Q) (nX (x':=n43) TK Q Q Q Q Q he48.2 Q Q Q (eY 8 (b34.set i32.toNat n43).length Q List.length_set.symm (eY 79 (b34.set i32.toNat n43).length Q List.length_set.symm (aJ 2 Q (WN [3,6,7,8,10,11,13] Q Q (aI 7 Q (bH [0,1,2,3,4,5] hm Q Q)))))))))
    exact aI 1 Q (bH [0,1,2,3,4,5] hm Q Q)
   obtain⟨value39,b40⟩:=j;exact WN [3,6,7,8,10,11,12] Q Q (aO 5 Q (VE hm λe49 he49 hm=>SX Q Q (eL TK Q Q Q Q he49 Q) (nX (x':=value39) TK Q Q Q Q Q he49.2 Q Q Q (eY 7 (b33.set e37.var.toNat value39).length Q List.length_set.symm (eY 87 (b33.set e37.var.toNat value39).length Q List.length_set.symm (aJ 3 Q (WN [3,6,7,8,10] Q Q (aO 2 Q (GE hm λg50 hm=>SX Q Q (cA Q Q Q Q g50) (aF 2 Q (bT [0,1,2,3,4] hm Q Q)))))))))))
  refine aI 2 Q (IE hm λv51 hm hz=>?_);rw [hz35 _ hz] at hm;exact WX (bG 1 Q (bH [0,1,2,3,4] hm Q Q))
 obtain⟨b25,b26⟩:=j;refine WN [6,7,8] Q Q (aO 3 Q (SX Q Q (iP Q oJ cL Q Q Q Q) (aJ 3 Q (WN [6] Q Q (aI 1 Q ?_)))));obtain rfl:=OJ hm;exact EndsS.cellR _ TK Q Q Q Q Q (rD (.cons (eN Q) Q (.cons (eN Q) Q (.cons (.d _) Q .nil))))
theorem tF {p0:(List Visit')} {p1:Machine} {r:Bool} (hm:eO p0 p1=some r):RetN TP 46 [.sl 4 (p0.map Visit'.enc),p1.enc] (.bool (r)):=by
 refine .unit (aN (bA Q) func46 Q ntmps46 Q Q (λwX gX=>?_)) Q;unfold eO at hm;refine WN [0,1] Q Q (aR 1 Q (cQ 0 Q Q Q (aJ 3 Q (bM hm (λ_=>[]) (λ_=>[]) [] [] Q (λz1 hm hz1=>?_) (λj hm=>?_)))))
 ·refine bY 5 Q (bL hm (λi3=>([(5,.d (.int .i64 i3))])) (λi3=>[]) [5] [0,3] [0] Q k0 Q Q Q Q Q (λi3 z4 hm hz4=>WN [0,3,5] Q Q (aR 4 Q (SX Q Q (aQ TK Q Q Q) (aJ 3 Q (bO hm Q (λh5 hm=>?_) (λh5 hm=>?_)))))))
  ·refine bC 4 Q (bI follows ?_);iterate 2 (refine DA [0] TK Q ?_)
   refine VE hm λe6 he6 hm=>DX [0] Q Q (dZ TK Q Q Q Q he6) ?_;iterate 3 (refine DA [0] TK Q ?_)
   refine yR [0] hm (nZ ·) Q Q Q Q λr7 hm=>?_;refine DT ?_ (by kernel_rfl);refine aJ 2 Q (bS hm Q (λh8 hm=>?_) (λh8 hm=>?_))
   ·refine aI 7 Q (IE hm λv9 hm hz=>?_);rw [hz4 _ hz] at hm;refine WR (bG 1 Q (IE hm λv10 hm hz=>?_));rw [hz1 _ hz] at hm;exact WR (aP hm Q)
   exact aO 5 Q (GE hm λg11 hm=>SX Q Q (cA Q Q Q Q g11) (aF 2 Q (bT [0] hm Q Q)))
  refine aI 2 Q (IE hm λv12 hm hz=>?_);rw [hz4 _ hz] at hm;exact WX (bG 1 Q (bT [0] hm Q Q))
 exact WN [] Q Q (aI 5 Q (aP hm Q))
theorem rQ {p0:Program} {p1:(List Aa)} {p2:(List (List Bool))} {p3:Int} {r0:(List Visit')} {r1:Bool} (hm:eX p0 p1 p2 p3=some (r0,r1)):RetT TP 29 [p0.enc,.sl 4 (p1.map Aa.enc),.sl 1 (p2.map (λ(l:List Bool)=>D.sl 1 (l.map D.bool))),.int .i64 p3] [.sl 4 (r0.map Visit'.enc),.bool (r1)]:=by
 refine .of (mv:=λ_=>false) (mG (bA Q) func29 Q ntmps29 Q Q (λwX gX=>?_));unfold eX at hm;refine WN [0,1,2,3] Q Q (aR 1 Q (cQ 0 Q Q Q (aG 6 Q (c_D hm (nB ·) Q Q Q Q λr1 hm=>SX Q Q (cF Q qKG oY Q Q Q Q) (qIG 17 [none,none,none,some 1] Q (pA (f:=Visit'.enc) 1 [.tmp 17] ([(⟨r1,([]:List Int)⟩:Visit')]:List Visit') TK Q Q Q oY Q Q Q Q Q (aJ 3 Q (bM hm (λb2=>([(10,.msl 1 4 0 b2.length)])) (λb2=>([(1,.flat 76 4 (b2.map Visit'.enc))])) [10] [] Q (λz3 hm hz3=>?_) (λb2 hm=>?_)))))))))
 ·refine bY 5 Q (bL hm (λ(i7,b8)=>([(10,.msl 1 4 0 b8.length),(11,.d (.int .i64 i7))])) (λ(i7,b8)=>([(1,.flat 76 4 (b8.map Visit'.enc))])) [10,11] [1,2,3,4] [0,1] Q k0 Q Q Q Q Q (λs z9 hm hz9=>?_));obtain⟨i7,b8⟩:=s;refine WN [1,2,3,4,10,11] Q Q (bY 1 Q (bD hm (λx10=>([(34,.d (.bool (x10)))])) (λx10=>[]) [34] [1,2,3,4,10,11] Q (λz11 hm=>?_) (λx10 hm=>?_)))
  ·refine aR 5 Q (SB TK Q (λq12 hq12=>?_));cases q12
   ·replace hm:=JF hq12 hm;exact aF 12 Q (bH [0,1] hm Q Q)
   replace hm:=JT hq12 hm;exact aG 4 Q (GE hm λg13 hm=>SX Q Q (cA Q Q Q Q g13) (VE hm λe14 he14 hm=>SX Q Q (eL TK Q Q Q Q he14 Q) (aG 1 Q (SX Q Q (jN TK Q Q Q Q he14.2 Q) (c_N hm (fX ·) Q Q Q Q λr15 hm=>aF 3 Q (bH [0,1] hm Q Q))))))
  refine WN [1,2,3,4,10,11,34] Q Q (bS hm Q (λh16 hm=>?_) (λh16 hm=>?_))
  ·refine bC 2 Q (bM hm (λb17=>([(10,.msl 1 4 0 b17.length)])) (λb17=>([(1,.flat 76 4 (b17.map Visit'.enc))])) [10] [1,2,3,4,11] Q (λz18 hm hz18=>?_) (λb17 hm=>?_))
   ·refine bY 6 Q (bL hm (λ(k22,b23)=>([(10,.msl 1 4 0 b23.length),(12,.d (.int .i64 k22))])) (λ(k22,b23)=>([(1,.flat 76 4 (b23.map Visit'.enc))])) [10,12] [1,2,3,4,11] [0,1] Q k0 Q Q Q Q Q (λs z24 hm hz24=>?_));obtain⟨k22,b23⟩:=s;refine WN [1,2,3,4,10,11,12] Q Q (bY 1 Q (bD hm (λx25=>([(50,.d (.bool (x25)))])) (λx25=>[]) [50] [1,2,3,4,10,11,12] Q (λz26 hm=>?_) (λx25 hm=>?_)))
    ·refine aR 3 Q (SX Q Q (aQ TK Q Q Q) (aG 1 Q (SB TK Q (λq27 hq27=>?_))));cases q27
     ·replace hm:=JF hq27 hm;exact aF 10 Q (bH [0,1] hm Q Q)
     replace hm:=JT hq27 hm;exact aG 2 Q (VE hm λe28 he28 hm=>SX Q Q (eL TK Q Q Q Q he28 Q) (aG 1 Q (SX Q Q (jN TK Q Q Q Q he28.2 Q) (SX Q Q (aQ TK Q Q Q) (aF 4 Q (bH [0,1] hm Q Q))))))
    refine WN [1,2,3,4,10,11,12,50] Q Q (bS hm Q (λh29 hm=>?_) (λh29 hm=>?_))
    ·refine bC 4 Q (gL (bI follows (DA [0] TK Q ?_)));iterate 2 (refine DA [] TK Q ?_)
     refine VE hm λe30 he30 hm=>DX [] Q Q (eL TK Q Q Q Q he30 Q) (DA [] TK Q (DX [1] Q Q (jN TK Q Q Q Q he30.2 Q) ?_));iterate 2 (refine DA [] TK Q ?_)
     refine VE hm λe31 he31 hm=>DX [] Q Q (dZ TK Q Q Q Q he31) (DA [] TK Q (qHG [] hm (vJ ·) Q Q Q Q λr32 hm=>yO [2] _ (.mptr 2 0 0 0) Q (jV Q) Q (qJ Q Q cL Q Q) ?_));refine DT ?_ (by kernel_rfl);refine aG 7 Q (BE hm λr33 hr33 hm=>SX Q Q (RN Q Q (SC (eN Q) (mE Q)) (tF hr33)) (aJ 2 Q (bS hm Q (λh34 hm=>?_) (λh34 hm=>?_))))
     ·exact bC 4 Q (WN [1,2,3,4,10,11,12] Q Q (aO 2 Q (GE hm λg35 hm=>SX Q Q (cA Q Q Q Q g35) (aF 2 Q (bT [0,1] hm Q Q)))))
     refine bC 2 Q (WN [1,2,3,4,10,11,12,13] Q Q (bC 7 Q (bO hm Q (λh36 hm=>?_) (λh36 hm=>?_))))
     ·refine bC 5 Q (qJS 8 [some 4] Q (aI 4 Q (IE hm λv37 hm hz=>?_)));rw [hz24 _ hz] at hm;refine WR (bG 2 Q (IE hm λv38 hm hz=>?_));rw [hz18 _ hz] at hm;refine WR (IE hm λv39 hm hz=>?_);rw [hz9 _ hz] at hm;refine WR (bG 1 Q (IE hm λv40 hm hz=>?_));rw [hz3 _ hz] at hm;refine WR ?_;obtain⟨rfl,rfl⟩:=Prod.mk.inj (Option.some.inj hm);exact EndsT.two Q (.d _) (.refl _) (.d _) (.refl _)
     refine aO 3 Q (pA (f:=(D.int .i64)) 3 [] ([]:List Int) TK Q Q Q gK Q Q Q Q Q (aG 2 Q (VE hm λe41 he41 hm=>SX Q Q (eL TK Q Q Q Q he41 Q) (aG 1 Q (SX Q Q (jN TK Q Q Q Q he41.2 Q) (GE hm λg42 hm=>jQ (f:=(D.int .i64)) e41.trace TK Q Q gK Q Q Q Q Q (λh=>absurd h (zQV _)) Q jP g42 Q Q (aG 1 Q (SX Q Q (fV [.tmp 77] TK Q Q gK Q Q Q Q Q) (GE hm λg43 hm=>jQ (f:=(D.int .i64)) ([k22]:List Int) TK Q Q gK Q Q Q Q Q (λh=>absurd h (zQV _)) Q jP g43 Q Q (aJ 3 Q ?_))))))))));refine qAK 14 3 [1,2,3,4,10,11,12,13] Q Q Q Q Q (by simp) Q Q ?_;refine aO 4 Q (SX Q Q (cF Q qKG oY Q Q Q Q) (SX Q Q (fV [.tmp 83] TK Q Q oY Q Q Q Q Q) (GE hm λg44 hm=>jQ (f:=Visit'.enc) ([(⟨r32,((([]:List Int)++e41.trace)++([k22]:List Int))⟩:Visit')]:List Visit') TK Q Q oY Q Q Q Q Q (λh=>absurd h (zQV _)) Q jP g44 Q Q (aJ 3 Q (WN [1,2,3,4,10,11,12,13] Q Q (aO 3 Q (c_N hm (fX ·) Q Q Q Q λr45 hm=>aJ 2 Q (bS hm Q (λh46 hm=>?_) (λh46 hm=>?_)))))))))
     ·refine aI 9 Q (IE hm λv47 hm hz=>?_);rw [hz24 _ hz] at hm;refine WR (bG 2 Q (IE hm λv48 hm hz=>?_));rw [hz18 _ hz] at hm;refine WR (IE hm λv49 hm hz=>?_);rw [hz9 _ hz] at hm;refine WR (bG 1 Q (IE hm λv50 hm hz=>?_));rw [hz3 _ hz] at hm;refine WR ?_;obtain⟨rfl,rfl⟩:=Prod.mk.inj (Option.some.inj hm);exact EndsT.two Q (eN Q) (.refl _) (.d _) (.refl _)
     exact aO 5 Q (GE hm λg51 hm=>SX Q Q (cA Q Q Q Q g51) (aF 2 Q (bT [0,1] hm Q Q)))
    refine aI 2 Q (IE hm λv52 hm hz=>?_);rw [hz24 _ hz] at hm;exact WX (bG 2 Q (bT [0,1] hm Q Q))
   exact WN [1,2,3,4,10,11] Q Q (aO 2 Q (GE hm λg53 hm=>SX Q Q (cA Q Q Q Q g53) (aF 2 Q (bT [0,1] hm Q Q))))
  refine aI 2 Q (IE hm λv54 hm hz=>?_);rw [hz9 _ hz] at hm;exact WX (bG 1 Q (bT [0,1] hm Q Q))
 refine WN [10] Q Q (aI 7 Q ?_);obtain⟨rfl,rfl⟩:=Prod.mk.inj (Option.some.inj hm);exact EndsT.two Q (eN Q) (.refl _) (.d _) (.refl _)
theorem vH {p0:Program} {p1:(List Aa)} {p2:(List (List Bool))} {p3:Int} {r0:(List Int)} {r1:Bool} {r2:Int} (hm:iK p0 p1 p2 p3=some (r0,r1,r2)):RetT TP 11 [p0.enc,.sl 4 (p1.map Aa.enc),.sl 1 (p2.map (λ(l:List Bool)=>D.sl 1 (l.map D.bool))),.int .i64 p3] [.sl 1 (r0.map (D.int .i64)),.bool (r1),.int .i64 r2]:=by
 refine .of (mv:=λ_=>false) (mG (bA Q) func11 Q ntmps11 Q Q (λwX gX=>?_));unfold iK at hm;refine WN [0,1,2,3] Q Q (aR 1 Q (cQ 0 Q Q Q (aG 10 Q (c_N hm (tE ·) Q Q Q Q λr1 hm=>aJ 2 Q (bS hm Q (λh2 hm=>?_) (λh2 hm=>?_))))))
 ·refine bC 6 Q (qJS 8 [some 1] Q (aI 2 Q ?_));obtain⟨rfl,hmj0⟩:=Prod.mk.inj (Option.some.inj hm);obtain⟨rfl,rfl⟩:=Prod.mk.inj (hmj0);exact⟨_,.mk _ (.cons (.tmp 8) (.cons (.tmp 9) (.cons (.tmp 10) .nil))) Q,(.cons (.d _) (.refl _) (.cons (.d _) (.refl _) (.cons (.d _) (.refl _) .nil)))⟩
 refine aO 7 Q (BE hm λr3 hr3 hm=>?_);obtain⟨r4,r5⟩:=r3;refine SX Q Q (kC Q Q Q (rQ hr3)) (aJ 7 Q (WN [1,11,12] Q Q (bC 6 Q (bS hm Q (λh6 hm=>?_) (λh6 hm=>?_)))))
 ·refine bC 6 Q (qJS 8 [some 1] Q (aI 2 Q ?_));obtain⟨rfl,hmj0⟩:=Prod.mk.inj (Option.some.inj hm);obtain⟨rfl,rfl⟩:=Prod.mk.inj (hmj0);exact⟨_,.mk _ (.cons (.tmp 8) (.cons (.tmp 9) (.cons (.tmp 10) .nil))) Q,(.cons (.d _) (.refl _) (.cons (.d _) (.refl _) (.cons (.d _) (.refl _) .nil)))⟩
 refine aO 5 Q (SX Q Q (aQ TK Q Q Q) (GE hm λg7 hm=>SX Q Q (cA Q Q Q Q g7) (VE hm λe8 he8 hm=>SX Q Q (dZ TK Q Q Q Q he8) (aG 1 Q (eB 1 Q Q oY Q (dU 1 [some 1,some 1,none,some 1] Q Q (aG 8 Q (c_N hm (fX ·) Q Q Q Q λr9 hm=>aJ 3 Q (WN [13,38] Q Q (bS hm Q (λh10 hm=>?_) (λh10 hm=>?_)))))))))))
 ·refine bC 6 Q (qJS 8 [some 1] Q (aI 2 Q ?_));obtain⟨rfl,hmj0⟩:=Prod.mk.inj (Option.some.inj hm);obtain⟨rfl,rfl⟩:=Prod.mk.inj (hmj0);exact⟨_,.mk _ (.cons (.tmp 8) (.cons (.tmp 9) (.cons (.tmp 10) .nil))) Q,(.cons (.d _) (.refl _) (.cons (.d _) (.refl _) (.cons (.d _) (.refl _) .nil)))⟩
 refine aI 11 Q ?_;obtain⟨rfl,hmj0⟩:=Prod.mk.inj (Option.some.inj hm);obtain⟨rfl,rfl⟩:=Prod.mk.inj (hmj0);exact⟨_,.mk _ (.cons (.tmp 8) (.cons (.tmp 9) (.cons (.tmp 10) .nil))) Q,(.cons (.d _) (.refl _) (.cons (.d _) (.refl _) (.cons (.d _) (.refl _) .nil)))⟩
theorem lV {p0:Program} {p1:(List Aa)} {p2:(List (List Bool))} {p3:Int} {r:Bool} (hm:dX p0 p1 p2 p3=some r):Ret TP 3 [] (λ_=>false) ([p0.enc,.sl 4 (p1.map Aa.enc),.sl 1 (p2.map (λ(l:List Bool)=>D.sl 1 (l.map D.bool))),.int .i64 p3].map .d) (.d (.bool (r))) []:=by
 refine aN (bA Q) func3 Q ntmps3 Q Q (λwX gX=>?_);unfold dX at hm;refine WN [0,1,2,3] Q Q (aR 1 Q (cQ 0 Q Q Q (aG 8 Q (c_N hm (xG ·) Q Q Q Q λr1 hm=>aJ 3 Q (bS hm Q (λh2 hm=>?_) (λh2 hm=>?_))))))
 ·exact aO 1 Q (BE hm λr3 hr3 hm=>SX Q Q (RN Q Q SN (nG hr3)) (aF 5 Q (aP hm Q)))
 refine aO 7 Q (BE hm λr4 hr4 hm=>?_);obtain⟨r5,r6,r7⟩:=r4;refine SX Q Q (kC Q Q Q (fT hr4)) (aJ 9 Q (WN [1,2,3,4,9,10,11] Q Q (aO 5 Q (BE hm λr8 hr8 hm=>?_))));obtain⟨r9,r10,r11⟩:=r8;refine SX Q Q (kC Q Q Q (vH hr8)) (aJ 9 Q (bD hm (λx12=>([(8,.d (.bool (x12)))])) (λx12=>[]) [8] [] Q (λz13 hm=>?_) (λx12 hm=>?_)))
 ·refine aR 3 Q (c_N hm (oC ·) Q Q Q Q λr14 hm=>SB TK Q (λq15 hq15=>?_));cases q15
  ·replace hm:=JB hq15 hm;exact aF 14 Q (bH [0] hm Q Q)
  replace hm:=JA hq15 hm;refine aG 4 Q (SB TK Q (λq16 hq16=>?_));cases q16
  ·replace hm:=JB hq16 hm;exact aF 9 Q (bH [0] hm Q Q)
  replace hm:=JA hq16 hm;refine aG 4 Q (SB TK Q (λq17 hq17=>?_));cases q17
  ·replace hm:=JF hq17 hm;exact aF 4 Q (bH [0] hm Q Q)
  replace hm:=JT hq17 hm;exact BE hm λr18 hr18 hm=>SX Q Q (RN Q Q SN (nG hr18)) (aF 3 Q (bH [0] hm Q Q))
 exact WN [8] Q Q (aI 1 Q (aP hm Q))
end Go.Proofs.YtciilodpnepdbaaDoor
set_option maxHeartbeats 8000000
set_option linter.unusedSimpArgs false
set_option linter.unusedVariables false
set_option maxRecDepth 20000
namespace Go.Proofs.YtciilodpnepdbaaDoor
open Go Go.TL
@[simp] theorem aB {α:Type} {p:Prop} [Decidable p] {k:Option α} (h:p):aD p k=k:=if_pos h
@[simp] theorem aA {α β:Type} (a:α) (k:α->Option β):aC (some a) k=k a:=rfl
@[simp] theorem bN {α β:Type} (a:α) (k:α->Option β):cD (some (.inl a)) k=k a:=rfl
@[simp] theorem aZ {α β:Type} (b:β) (k:α->Option β):cD (some (.inr b)) k=some b:=rfl
@[simp] theorem bQ {α β:Type} (b:β):(aH (some b):Option (α ⊕ β))=some (.inr b):=rfl
theorem aL {α β:Type} {l:List α} {i:Nat} {e:α} {k:α->Option β} (h:l[i]?=some e):aW l (i:Int) k=k e:=by simp [aW,h]
theorem fH {α β:Type} {l:List α} {i:Int} {e:α} {k:α->Option β} (h0:0<=i) (h:l[i.toNat]?=some e):aW l i k=k e:=by simp [aW,h0,h]
@[simp] theorem ite_bindM {α β:Type} {p:Prop} [Decidable p] (a b:α) (k:α->Option β):aC (if p then some a else some b) k=k (if p then a else b):=by split<;>rfl
variable {σ ρ:Type}
theorem yB {f:σ->Option (σ ⊕ ρ)} (B:Nat->σ) {o:ρ}:∀ (n k:Nat),(∀ i,k<=i->i < k+n->f (B i)=some (.inl (B (i+1))))->f (B (k+n))=some (.inr o)->fF f (n+1) (B k)=some o
 | 0,k,_,he=>by simp only [Nat.add_zero] at he;simp [fF,he]
 | n+1,k,hf,he=>by
  simp only [fF];rw [hf k (zQW _) (by omega)];exact yB B n (k+1) (λi h1 h2=>hf i (by omega) (by omega)) (by rw [show k+1+n=k+(n+1) by omega];exact he)
theorem oN {f:σ->Option (σ ⊕ ρ)} (B:Nat->σ) (n:Nat) {o:ρ} {s:σ} (hs:s=B 0) (hn:n<=9223372036854775807) (hf:∀ i,i < n->f (B i)=some (.inl (B (i+1)))) (he:f (B n)=some (.inr o)):bE f s=some o:=by
 subst hs;exact lU (yB B n 0 (λi _ h=>hf i (by omega)) (by rw [Nat.zero_add];exact he)) (by unfold aU;omega)
theorem xX {f : Int -> Option (Int ⊕ ρ)} (n : Nat) (c : Nat -> Option ρ) (o : ρ) (hn : n <= 9223372036854775807) (hf : ∀ i, i < n -> f (i : Int) = match c i with
  | some r => some (.inr r)
  | none => some (.inl ((i : Int) + 1))) (he : f (n : Int) = some (.inr o)) : bE f 0 = some (((List.range n).findSome? c).getD o) := by
 cases h:(List.range n).findSome? c with
 | none=>
  rw [List.findSome?_eq_none_iff] at h;refine oN (λi=>(i:Int)) n rfl hn (λi hi=>?_) he;rw [hf i hi,h i (List.mem_range.2 hi)];rfl
 | some r=>
  rw [List.findSome?_eq_some_iff] at h;obtain⟨l1,a,l2,h1,h2,h3⟩:=h
  have ha:l1.length=a/\a < n:=by
   have hlen:l1.length < (List.range n).length:=by rw [h1];simp
   have:(List.range n)[l1.length]?=some a:=by rw [h1];simp
   simp only [List.length_range] at hlen;simp [hlen] at this;exact⟨this,by omega⟩
  obtain⟨ha1,ha2⟩:=ha;refine oN (λi=>(i:Int)) a rfl (by omega) (λi hi=>?_) ?_
  ·have hm:i∈l1:=by
    have:(List.range n)[i]?=some i:=List.getElem?_range (by omega);rw [h1,List.getElem?_append_left (by omega)] at this;exact zQM this
   rw [hf i (by omega),h3 i hm];rfl
  rw [hf a ha2,h2];rfl
theorem sP {α β:Type} (l:List α) (c:Nat->Option β) (d:α->Option β) (h:∀ (i:Nat) (e:α),l[i]?=some e->c i=d e):(List.range l.length).findSome? c=l.findSome? d:=by
 induction l generalizing c with
 | nil=>rfl
 | cons x r ih=>
  rw [List.length_cons,List.range_succ_eq_map,List.findSome?_cons,List.findSome?_map,List.findSome?_cons,h 0 x rfl]
  cases d x with
  | some b=>rfl
  | none=>exact ih (c ∘ Nat.succ) λi e he=>h (i+1) e (by simpa using he)
theorem qDB {α : Type} {f : Int -> Option (Int ⊕ ρ)} (l : List α) (d : α -> Option ρ) (o : ρ) (hn : l.length <= 9223372036854775807) (hf : ∀ (i : Nat) (e : α), l[i]? = some e -> f (i : Int) = match d e with
  | some r => some (.inr r)
  | none => some (.inl ((i : Int) + 1))) (he : f (l.length : Int) = some (.inr o)) : bE f 0 = some ((l.findSome? d).getD o) := by
 rw [xX l.length (λi=>(l[i]?).bind d) o hn (λi hi=>?_) he,sP l _ d (λi e he=>by simp [he])];rw [hf i l[i] (by simp),zQR hi];rfl
theorem oP {α β:Type} (l:List α) (c:α->Bool) (v:β):l.findSome? (λe=>if c e=true then some v else none)=if l.any c=true then some v else none:=by
 induction l with
 | nil=>rfl
 | cons x r ih=>
  rw [List.findSome?_cons,List.any_cons,ih];cases c x<;>simp
theorem dS {α:Type} {f:Int->Option (Int ⊕ ρ)} (l:List α) (c:α->Bool) (v o:ρ) (hn:l.length<=9223372036854775807) (hf:∀ (i:Nat) (e:α),l[i]?=some e->f (i:Int)=if c e=true then some (.inr v) else some (.inl ((i:Int)+1))) (he:f (l.length:Int)=some (.inr o)):bE f 0=some (if l.any c=true then v else o):=by
 rw [qDB l (λe=>if c e=true then some v else none) o hn (λi e h=>by rw [hf i e h];cases c e<;>simp) he,oP];split<;>rfl
theorem pI {f:Int->Option (Int ⊕ ρ)} (n:Nat) (c:Nat->Bool) (v o:ρ) (hn:n<=9223372036854775807) (hf:∀ i,i < n->f (i:Int)=if c i=true then some (.inr v) else some (.inl ((i:Int)+1))) (he:f (n:Int)=some (.inr o)):bE f 0=some (if (List.range n).any c=true then v else o):=by
 rw [xX n (λe=>if c e=true then some v else none) o hn (λi h=>by rw [hf i h];cases c i<;>simp) he,oP];split<;>rfl
theorem gS {β:Type} {f:Int×β->Option ((Int×β) ⊕ ρ)} (n:Nat) (B:Nat->β) {o:ρ} {b:β} (hb:b=B 0) (hn:n<=9223372036854775807) (hf:∀ i,i < n->f ((i:Int),B i)=some (.inl ((i:Int)+1,B (i+1)))) (he:f ((n:Int),B n)=some (.inr o)):bE f (0,b)=some o:=
 oN (λi=>((i:Int),B i)) n (by rw [hb];rfl) hn (λi hi=>by rw [hf i hi];rfl) he
theorem qDC {β:Type} {f:Int×β->Option ((Int×β) ⊕ ρ)} (n:Nat) (B:Nat->β) (c:Nat->Bool) (v o:ρ) {b:β} (hb:b=B 0) (hn:n<=9223372036854775807) (hf:∀ i,i < n->(∀ j,j < i->c j=false)->f ((i:Int),B i)=if c i=true then some (.inr v) else some (.inl ((i:Int)+1,B (i+1)))) (he:(∀ j,j < n->c j=false)->f ((n:Int),B n)=some (.inr o)):bE f (0,b)=some (if (List.range n).any c=true then v else o):=by
 cases h:(List.range n).findIdx? c with
 | none=>
  rw [List.findIdx?_eq_none_iff] at h;have hall:∀ j,j < n->c j=false:=λj hj=>by simpa using h j (List.mem_range.2 hj)
  have hno:¬ (List.range n).any c=true:=by
   rw [zQU];rintro⟨j,hj,hc⟩;rw [hall j (List.mem_range.1 hj)] at hc;cases hc
  rw [if_neg hno];exact gS n B hb hn (λi hi=>by rw [hf i hi (λj hj=>hall j (by omega)),hall i hi];rfl) (he hall)
 | some k=>
  rw [List.findIdx?_eq_some_iff_getElem] at h;obtain⟨hk,h1,h2⟩:=h;simp only [List.length_range] at hk;simp only [List.getElem_range] at h1;have hb':∀ j,j < k->c j=false:=λj hj=>by have:=h2 j hj;simpa using this
  have hyes:(List.range n).any c=true:=zQU.2 ⟨k,List.mem_range.2 hk,h1⟩;rw [if_pos hyes];exact gS k B hb (by omega) (λi hi=>by rw [hf i (by omega) (λj hj=>hb' j (by omega)),hb' i hi];rfl) (by rw [hf k hk hb',h1];rfl)
theorem bJ {i n:Nat} (h:i < n) (hn:n<=9223372036854775807):I64 ((i:Int)+1):=by unfold I64;omega
structure Ai where
 state:Int
 rel:Int
 timer:Int
deriving DecidableEq,Inhabited
def Ai.ok (x:Ai):Prop:=I64 x.state/\I64 x.rel/\I64 x.timer
instance (x:Ai):Decidable (Ai.ok x):=by unfold Ai.ok;infer_instance
structure Aq where
 Ap:(List Ai)
 lies:(List Int)
deriving DecidableEq,Inhabited
section chk
end chk
theorem zY {n:Nat} (h:n<=reachBytes):n<=140737488351232:=h
theorem iA {α:Type} (l:List α) (P:α->Bool):(l.any λi=>!P i)=!l.all P:=by simp [List.not_all_eq_any_not]
theorem qFQ {α β:Type} [DecidableEq α] {fs:List (α×β)} {k:α} {v:β} (h:dP fs k=none):qCU fs k v=fs++[(k,v)]:=by
 unfold qCU
 have:(fs.findIdx? λx=>decide (x.1=k))=none:=by
  unfold dP at h;rw [Option.map_eq_none_iff,List.find?_eq_none] at h;rw [List.findIdx?_eq_none_iff];intro x hx;simpa using h x hx
 rw [this]
end Go.Proofs.YtciilodpnepdbaaDoor
set_option linter.unusedVariables false
set_option linter.unusedSimpArgs false
set_option maxHeartbeats 400000
set_option maxRecDepth 100000
namespace Go.Proofs.YtciilodpnepdbaaDoor
open Go Go.TL
theorem pG {α:Type} {l:List α}:l.Nodup↔∀ a c,a < c->c < l.length->l[a]?≠l[c]?:=by
 unfold List.Nodup;rw [List.pairwise_iff_getElem];constructor
 ·intro h a c hac hc he;rw [zQR hc,zQR (show a < l.length by omega)] at he;exact h a c (by omega) hc hac (Option.some.inj he)
 intro h a c ha hc hac he;refine h a c hac hc ?_;rw [zQR hc,zQR ha,he]
def opB (v:List Bool) (op x:Int) (bs:List Bool):Bool:=
 if op=3 then decide (0<=x)&&v.getD x.toNat false
 else if op=4 then (match bs with|[]=>false|b :: _=>!b)
 else if op=5 then bs.all id
 else if op=6 then bs.any id
 else decide (op=2)
mutual
def evE (v:List Bool):Ac->Bool
 | ⟨op,x,l⟩=>opB v op x (evL v l)
def evL (v:List Bool):List Ac->List Bool
 | []=>[]
 | e :: r=>evE v e :: evL v r
end
mutual
def dpE:Ac->Nat
 | ⟨_,_,l⟩=>dpL l+1
def dpL:List Ac->Nat
 | []=>0
 | e :: r=>max (dpE e) (dpL r)
end
mutual
def szE:Ac->Nat
 | ⟨_,_,l⟩=>szL l+1
def szL:List Ac->Nat
 | []=>0
 | e :: r=>szE e+szL r
end
abbrev iQ:Nat:=9223372036854775807
mutual
def okE:Ac->Prop
 | ⟨_,_,l⟩=>l.length<=iQ/\okL l
def okL:List Ac->Prop
 | []=>True
 | e :: r=>okE e/\okL r
end
theorem qBT (v:List Bool):∀ l,evL v l=l.map (evE v)
 | []=>by simp [evL]
 | e :: r=>by simp [evL,qBT v r]
theorem lY (v:List Bool) (e:Ac):evE v e=opB v e.op e.var (e.args.map (evE v)):=by
 cases e with
 | mk a b c=>rw [evE,qBT]
theorem dpL_le {d:Nat}:∀ {l:List Ac},dpL l<=d↔∀ e∈l,dpE e<=d
 | []=>by simp [dpL]
 | e :: r=>by rw [dpL,Nat.max_le,dpL_le (l:=r)];simp
theorem fL (e:Ac):dpE e=dpL e.args+1:=by
 cases e with
 | mk a b c=>rw [dpE]
theorem qAV:∀ l:List Ac,szL l=(l.map szE).sum
 | []=>by simp [szL]
 | e :: r=>by simp [szL,qAV r]
theorem lB (e:Ac):szE e=szL e.args+1:=by
 cases e with
 | mk a b c=>rw [szE]
theorem qL (a b:List Ac):szL (a++b)=szL a+szL b:=by simp [qAV]
theorem qBH:∀ {l:List Ac},okL l↔∀ e∈l,okE e
 | []=>by simp [okL]
 | e :: r=>by rw [okL,qBH (l:=r)];simp
theorem okE_iff {e:Ac}:okE e↔e.args.length<=iQ/\∀ x∈e.args,okE x:=by
 cases e with
 | mk a b c=>rw [okE,qBH]
theorem uK {e:Ac} (h:Ac.Wf e):okE e:=by
 induction h with
 | mk x h0 h1 h2 g2 ih=>
  rw [okE_iff];exact⟨by have:=zY h2;unfold iQ;omega,ih⟩
theorem qIV (e:Ac):gV e=some ⟨if e.op=3 then 112 else if e.op=4 then (if 0 < e.args.length then 113 else 120) else if e.op=5 then 114 else if e.op=6 then 115 else 120,e⟩:=by
 unfold gV;by_cases h3:e.op=3
 ·rw [if_pos h3,if_pos h3]
 rw [if_neg h3,if_neg h3];by_cases h4:e.op=4
 ·rw [if_pos h4,if_pos h4];by_cases h:0 < e.args.length
  ·rw [if_pos (by omega),if_pos h]
  rw [if_neg (by omega),if_neg h]
 rw [if_neg h4,if_neg h4];by_cases h5:e.op=5
 ·rw [if_pos h5,if_pos h5]
 rw [if_neg h5,if_neg h5];by_cases h6:e.op=6
 ·rw [if_pos h6,if_pos h6]
 rw [if_neg h6,if_neg h6]
theorem uR (v:List Bool):∀ (fu:Nat) (e:Ac),dpE e<=fu->okE e->cX fu e v=some (evE v e)
 | 0,e,h,_=>by rw [fL] at h;omega
 | fu+1,e,h,ho=>by
  rw [fL] at h;have hd:∀ x∈e.args,dpE x<=fu:=dpL_le.1 (by omega);obtain⟨hl,hox⟩:=okE_iff.1 ho;unfold iQ at hl;have ih:∀ x∈e.args,cX fu x v=some (evE v x):=λx hx=>uR v fu x (hd x hx) (hox x hx);rw [lY];unfold cX opB;rw [qIV,aA];dsimp only;by_cases h3:e.op=3
  ·rw [if_pos h3,if_pos rfl,if_pos h3];by_cases h0:0<=e.var
   ·rw [if_pos h0,decide_eq_true h0,Bool.true_and];by_cases h1:e.var < (v.length:Int)
    ·have hx : v[e.var.toNat]? = some v[e.var.toNat] := zQR (by omega);rw [if_pos h1,fH h0 hx,aA,zQD,hx];rfl
    rw [if_neg h1, aA, zQD, List.getElem?_eq_none (by omega)];rfl
   rw [if_neg h0,decide_eq_false h0,Bool.false_and];rfl
  rw [if_neg h3,if_neg h3];by_cases h4:e.op=4
  ·rw [if_pos h4,if_pos h4];by_cases hz:0 < e.args.length
   ·rw [if_pos hz, if_neg (by decide), if_pos rfl];have hx:e.args[0]?=some e.args[0]:=zQR hz;rw [show (0:Int)=((0:Nat):Int) from rfl,aL hx,ih _ (List.getElem_mem hz),aA,bQ,aZ]
    cases e with
    | mk a b c=>
     cases c with
     | nil=>simp at hz
     | cons y r=>rfl
   rw [if_neg hz, if_neg (by decide), if_neg (by decide), if_neg (by decide), if_neg (by decide), bN, decide_eq_false (by omega)]
   cases e with
   | mk a b c=>
    cases c with
    | nil=>rfl
    | cons y r=>simp at hz
  rw [if_neg h4,if_neg h4];by_cases h5:e.op=5
  ·rw [if_pos h5, if_pos h5, if_neg (by decide), if_neg (by decide), if_pos rfl];rw [dS e.args (λx=>!evE v x) (.inr (.inr false)) (.inl ()) hl (λi x hx=>?_) (by rw [if_neg (by omega)];rfl)]
   ·cases ha:(e.args.map (evE v)).all id with
    | true=>
     rw [if_neg (by
      rw [zQU];rintro ⟨x, hx, hc⟩;rw [zQT] at ha;have := ha _ (List.mem_map_of_mem hx);simp only [id] at this;rw [this] at hc
      cases hc)]
     rfl
    | false=>
     rw [if_pos (by
      rw [zQU];rw [List.all_eq_false] at ha;obtain ⟨y, hy, hc⟩ := ha;obtain ⟨x, hx, rfl⟩ := List.mem_map.1 hy
      exact ⟨x, hx, by simpa using hc⟩)]
     rfl
   have hi:=(zQQ.1 hx).1;rw [if_pos (by omega),aL hx,ih x (zQM hx),aA,aB (bJ hi hl)];cases evE v x<;>simp
  rw [if_neg h5,if_neg h5];by_cases h6:e.op=6
  ·rw [if_pos h6, if_pos h6, if_neg (by decide), if_neg (by decide), if_neg (by decide), if_pos rfl];rw [dS e.args (λx=>evE v x) (.inr (.inr true)) (.inl ()) hl (λi x hx=>?_) (by rw [if_neg (by omega)];rfl)]
   ·rw [List.any_map,show (id ∘ evE v)=evE v from rfl];show cD (cD (some (if e.args.any (evE v)=true then Sum.inr (Sum.inr true) else Sum.inl ())) _) _=_;cases e.args.any (evE v)
    ·rw [if_neg (by simp)];rfl
    rw [if_pos rfl];rfl
   have hi:=(zQQ.1 hx).1;rw [if_pos (by omega),aL hx,ih x (zQM hx),aA,aB (bJ hi hl)];cases evE v x<;>simp
  rw [if_neg h6,if_neg h6,if_neg (by decide),if_neg (by decide),if_neg (by decide),if_neg (by decide),bN]
theorem qCJ {e:Ac} (v:List Bool) (hd:dpE e<=aU) (ho:okE e):iE e v=some (evE v e):=by
 unfold iE pM;rw [uR v aU e hd ho,aA]
def eG (n:Int) (op x:Int) (k:Nat):Bool:=
 if op=1\/op=2 then decide (x=0/\k=0)
 else if op=3 then decide (0<=x/\x < n/\k=0)
 else if op=4 then decide (k=1/\x=0)
 else if op=5\/op=6 then decide (x=0)
 else false
mutual
def cW (n:Int):Ac->Bool
 | ⟨op,x,l⟩=>eG n op x l.length&&hU n l
def hU (n:Int):List Ac->Bool
 | []=>true
 | e :: r=>cW n e&&hU n r
end
theorem pJ {n:Int}:∀ {l:List Ac},hU n l=true↔∀ e∈l,cW n e=true
 | []=>by simp [hU]
 | e :: r=>by rw [hU,zQA,pJ (l:=r)];simp
theorem goodE_iff {n:Int} {e:Ac}:cW n e=true↔eG n e.op e.var e.args.length=true/\∀ x∈e.args,cW n x=true:=by
 cases e with
 | mk a b c=>rw [cW,zQA,pJ]
def hL (n:Int) (d left:Int) (e:Ac):Prop:=cW n e=true/\d+(dpE e:Int)<=13/\(szE e:Int)<=left
instance (n d left:Int) (e:Ac):Decidable (hL n d left e):=by unfold hL;infer_instance
theorem qS {σ ρ:Type} {f:σ->Option (σ ⊕ ρ)} (P:ρ->Prop) (I:Nat->σ->Prop) {s:σ} (n:Nat) (hn:n<=iQ) (h0:I 0 s) (hs:∀ i,i < n->∀ s,I i s->(∃ s',f s=some (.inl s')/\I (i+1) s')\/(∃ o,f s=some (.inr o)/\P o)) (he:∀ s,I n s->∃ o,f s=some (.inr o)/\P o):∃ o,bE f s=some o/\P o:=by
 suffices h:∀ k i s,i+k=n->I i s->∃ o,fF f (k+1) s=some o/\P o by
  obtain⟨o,h1,h2⟩:=h n 0 s (by omega) h0;exact⟨o,lU h1 (by unfold aU iQ at *; omega),h2⟩
 intro k
 induction k with
 | zero=>
  intro i s hi hI;obtain⟨o,h1,h2⟩:=he s (by rw [show n=i by omega];exact hI);exact⟨o,by simp [fF,h1],h2⟩
 | succ k ih=>
  intro i s hi hI;rcases hs i (by omega) s hI with ⟨s',h1,h2⟩|⟨o,h1,h2⟩
  ·obtain ⟨o, h3, h4⟩ := ih (i + 1) s' (by omega) h2;exact⟨o,by rw [fF,h1];exact h3,h4⟩
  exact⟨o,by rw [fF,h1],h2⟩
theorem rA (n:Int):∀ (fu:Nat) (e:Ac) (d left:Int),14<=(fu:Int)+d->0 < fu->1<=d->d<=13->0<=left->left<=1000000->okE e->∃ k,cT fu e n d left=some (decide (hL n d left e),k)/\0<=k/\k<=left/\(hL n d left e->k=left - (szE e:Int))
 | 0,e,d,left,hfu,hp,_,_,_,_,_=>by omega
 | fu+1,e,d,left,hfu,hp,hd1,hd13,h0,hm,ho=>by
  obtain⟨hl,hox⟩:=okE_iff.1 ho;have hdp:=fL e;have hsz:=lB e;have hgd:=goodE_iff (n:=n) (e:=e);unfold cT;by_cases hx:12 < d\/left=0
  ·rw [if_pos (by simpa using hx)];have hno:¬ hL n d left e:=by unfold hL;omega
   exact⟨left,by rw [decide_eq_false hno],h0,by omega,λh=>absurd h hno⟩
  rw [if_neg (by simpa using hx), aB (by unfold I64; omega)]
  have args (hform : eG n e.op e.var e.args.length = true ↔ e.var = 0) (hform2 : 0 < e.args.length -> 0 < fu) : ∃ k, (if e.var = (0 : Int) then
    cD (
     bE (fun ((x27 : Int), (c28 : Int)) =>
      if x27 < (e.args.length : Int) then
       aW e.args x27 fun e31 =>
       aD (I64 (d + (1 : Int))) <|
       aC ((cT fu) e31 n (d + (1 : Int)) c28) fun (r34, r35) =>
       if (!(r34)) = true then
        aH (
         aH (
          some (false, r35)))
       else
        aD (I64 (x27 + (1 : Int))) <|
        some (.inl ((x27 + (1 : Int)), r35))
      else
       aH (
        some (.inl c28))) ((0 : Int), (left - (1 : Int)))) fun c22 =>
    some (true, c22)
   else
    some (false, (left - (1 : Int)))) = some (decide (hL n d left e), k) /\ 0 <= k /\ k <= left /\ (hL n d left e -> k = left - (szE e : Int)) := by
   by_cases hv:e.var=0
   ·rw [if_pos hv]
    have hval:hL n d left e↔(∀ x∈e.args,cW n x=true)/\(∀ x∈e.args,d+1+(dpE x:Int)<=13)/\(szL e.args:Int)<=left - 1:=by
     unfold hL;rw [hgd,hform,hdp,hsz]
     have hdl:d+((dpL e.args+1:Nat):Int)<=13↔∀ x∈e.args,d+1+(dpE x:Int)<=13:=by
      have h1:=dpL_le (l:=e.args) (d:=(12 - d).toNat);constructor
      ·intro h x hx;have:=h1.1 (by omega) x hx;omega
      intro h;have:=h1.2 (λx hx=>by have:=h x hx;omega);omega
     rw [hdl];constructor
     ·rintro⟨⟨_,a⟩,b,c⟩;exact⟨a,b,by omega⟩
     rintro⟨a,b,c⟩;exact⟨⟨hv,a⟩,b,by omega⟩
    obtain ⟨o, ho1, ho2⟩ := qS (f := fun ((x27 : Int), (c28 : Int)) =>
      if x27 < (e.args.length : Int) then
       aW e.args x27 fun e31 =>
       aD (I64 (d + (1 : Int))) <|
       aC ((cT fu) e31 n (d + (1 : Int)) c28) fun (r34, r35) =>
       if (!(r34)) = true then
        aH (
         aH (
          some (false, r35)))
       else
        aD (I64 (x27 + (1 : Int))) <|
        some (.inl ((x27 + (1 : Int)), r35))
      else
       aH (
        some (.inl c28))) (s := ((0 : Int), left - 1))
     (fun (o : Int ⊕ (Bool × Int)) => match o with
      | .inl c => hL n d left e /\ c = left - (szE e : Int)
      | .inr r => ¬ hL n d left e /\ r.1 = false /\ 0 <= r.2 /\ r.2 <= left)
     (fun i s => s.1 = (i : Int) /\ s.2 = left - 1 - (szL (e.args.take i) : Int) /\ 0 <= s.2 /\ ∀ x ∈ e.args.take i, hL n (d + 1) 1000000 x /\ cW n x = true /\ d + 1 + (dpE x : Int) <= 13) e.args.length hl ⟨rfl, by simp [szL], by show 0 <= left - 1; omega, by simp⟩ (fun i hi s hI => by
      obtain ⟨x27, c28⟩ := s;obtain ⟨h1, h2, h3, h4⟩ := hI;dsimp only at h1 h2 h3;subst h1;have hxi := zQR hi;have hmem := List.getElem_mem hi;dsimp only;rw [if_pos (by omega), aL hxi, aB (by unfold I64; omega)];obtain ⟨k, hk1, hk2, hk3, hk4⟩ := rA n fu e.args[i] (d + 1) c28 (by omega) (hform2 (by omega)) (by omega) (by omega) h3 (by omega) (hox _ hmem);rw [hk1, aA]
      have hsplit : szL (e.args.take (i + 1)) = szL (e.args.take i) + szE e.args[i] := by
       rw [List.take_add_one, hxi, qL];simp [szL]
      by_cases hV : hL n (d + 1) c28 e.args[i]
      ·left;rw [decide_eq_true hV, if_neg (by simp), aB (bJ hi hl)];refine ⟨_, rfl, by push_cast; rfl, ?_, hk2, ?_⟩
       ·dsimp only;rw [hk4 hV, hsplit];omega
       intro x hx;rw [List.take_add_one, hxi] at hx;simp only [Option.toList_some, zQN, List.mem_singleton] at hx;rcases hx with hx | hx
       ·exact h4 x hx
       subst hx;exact ⟨⟨hV.1, hV.2.1, by have := hV.2.2; omega⟩, hV.1, hV.2.1⟩
      ·right;rw [decide_eq_false hV];simp only [Bool.not_false, if_true, bQ];refine ⟨_, rfl, ?_, rfl, hk2, by omega⟩;intro hc;rw [hval] at hc;apply hV;refine ⟨hc.1 _ hmem, hc.2.1 _ hmem, ?_⟩
       have h5 : szL (e.args.take (i + 1)) <= szL e.args := by
        conv => rhs; rw [<- List.take_append_drop (i + 1) e.args, qL]
        omega
       have h6 := hc.2.2
       omega) (fun s hI => by
      obtain ⟨x27, c28⟩ := s;obtain ⟨h1, h2, h3, h4⟩ := hI;dsimp only at h1 h2 h3;subst h1;rw [List.take_length] at h2 h4;dsimp only;rw [if_neg (by omega)];refine ⟨_, rfl, ?_, by rw [hsz]; omega⟩;rw [hval]
      exact ⟨fun x hx => (h4 x hx).2.1, fun x hx => (h4 x hx).2.2, by omega⟩)
    rw [ho1]
    cases o with
    | inl c=>
     dsimp only at ho2;rw [bN];have hsz2:(szE e:Int)<=left:=ho2.1.2.2;exact⟨c,by rw [decide_eq_true ho2.1],by omega,by omega,λ_=>ho2.2⟩
    | inr r=>
     obtain⟨r1,r2⟩:=r;dsimp only at ho2;obtain⟨p1,p2,p3,p4⟩:=ho2;subst p2;rw [aZ];exact⟨r2,by rw [decide_eq_false p1],p3,p4,λh=>absurd h p1⟩
   rw [if_neg hv]
   have hno:¬ hL n d left e:=by
    unfold hL;rw [hgd,hform];intro h;exact hv h.1.1
   exact⟨left - 1,by rw [decide_eq_false hno],by omega,by omega,λh=>absurd h hno⟩
  have leaf (b:Bool) (hform:eG n e.op e.var e.args.length=b) (hb:b=true->e.args.length=0):∃ k,(some (b,left - 1):Option (Bool×Int))=some (decide (hL n d left e),k)/\0<=k/\k<=left/\(hL n d left e->k=left - (szE e:Int)):=by
   cases b with
   | true=>
    have hnil:e.args=[]:=List.eq_nil_of_length_eq_zero (hb rfl);have h1:dpE e=1:=by rw [hdp,hnil];rfl
    have h2:szE e=1:=by rw [hsz,hnil];rfl
    have hyes:hL n d left e:=⟨hgd.2 ⟨hform,by rw [hnil];simp⟩,by omega,by omega⟩;exact⟨left - 1,by rw [decide_eq_true hyes],by omega,by omega,λ_=>by omega⟩
   | false=>
    have hno:¬ hL n d left e:=by
     unfold hL;rw [hgd,hform];intro h;exact absurd h.1.1 (by simp)
    exact⟨left - 1,by rw [decide_eq_false hno],by omega,by omega,λh=>absurd h hno⟩
  have hpos:0 < e.args.length->0 < fu:=by intro _;omega
  unfold eG at args leaf;by_cases h12:e.op=1\/e.op=2
  ·have e1:(if e.op=(1:Int) then some (decide (e.op=(1:Int))) else some (decide (e.op=(2:Int))))=some true:=by
    rcases h12 with h|h<;>simp [h]
   rw [e1,aA,if_pos rfl,bQ,aZ];refine leaf _ ?_ ?_
   ·rw [if_pos h12,Bool.eq_iff_iff];simp only [decide_eq_true_eq,zQA];omega
   simp only [zQA,decide_eq_true_eq];omega
  have e1:(if e.op=(1:Int) then some (decide (e.op=(1:Int))) else some (decide (e.op=(2:Int))))=some false:=by
   rw [if_neg (by omega),decide_eq_false (by omega)]
  rw [e1,aA,if_neg (by simp)];by_cases h3:e.op=3
  ·rw [if_pos h3,bQ,aZ];refine leaf _ ?_ ?_
   ·rw [if_neg h12,if_pos h3,Bool.eq_iff_iff];simp only [decide_eq_true_eq,zQA];omega
   simp only [zQA,decide_eq_true_eq];omega
  rw [if_neg h3];by_cases h4:e.op=4
  ·rw [if_pos h4];by_cases h1:e.args.length=1
   ·rw [if_pos (by omega), bN];exact args (by rw [if_neg h12,if_neg h3,if_pos h4];simp [h1]) hpos
   rw [if_neg (by omega), bQ, aZ];exact leaf false (by rw [if_neg h12,if_neg h3,if_pos h4,decide_eq_false (by omega)]) (by simp)
  rw [if_neg h4];by_cases h5:e.op=5
  ·rw [if_pos h5,bN];exact args (by rw [if_neg h12,if_neg h3,if_neg h4,if_pos (.inl h5)];simp) hpos
  rw [if_neg h5];by_cases h6:e.op=6
  ·rw [if_pos h6,bN];exact args (by rw [if_neg h12,if_neg h3,if_neg h4,if_pos (.inr h6)];simp) hpos
  rw [if_neg h6,bQ,aZ];exact leaf false (by rw [if_neg h12,if_neg h3,if_neg h4,if_neg (by omega)]) (by simp)
abbrev qIC (n:Int) (e:Ac):Bool:=decide (hL n 1 20000 e)
theorem qHQ (n:Int) {e:Ac} (ho:okE e):gE e n=some (qIC n e):=by
 unfold gE nP;obtain⟨k,hk,_⟩:=rA n aU e 1 20000 (by unfold aU;omega) (by unfold aU;omega) (by omega) (by omega) (by omega) (by omega) ho;rw [hk,aA]
mutual
theorem vD:∀ e:Ac,szE e<=e.Ak.bulk
 | ⟨a,b,c⟩=>by
  have:=wT c;simp only [szE,Ac.Ak,D.bulk,D.bulks];omega
theorem wT:∀ l:List Ac,szL l<=D.bulks (Ac.An l)
 | []=>by simp [szL]
 | e :: r=>by
  have:=vD e;have:=wT r;simp only [szL,Ac.An,D.bulks];omega
end
mutual
theorem oT:∀ e:Ac,dpE e<=szE e
 | ⟨a,b,c⟩=>by
  have:=qGY c;simp only [szE,dpE];omega
theorem qGY:∀ l:List Ac,dpL l<=szL l
 | []=>by simp [szL,dpL]
 | e :: r=>by
  have:=oT e;have:=qGY r;simp only [szL,dpL];omega
end
theorem vC (e:Ac):1<=szE e:=by rw [lB];omega
theorem sH:∀ l:List Ac,l.length<=szL l
 | []=>by simp [szL]
 | e :: r=>by have:=vC e;have:=sH r;simp only [szL,List.length_cons];omega
theorem lR:∀ {l:List Ac} {x:Ac},x∈l->szE x<=szL l
 | e :: r,x,h=>by
  rcases zQB.1 h with rfl|h
  ·simp only [szL];omega
  have:=lR h;simp only [szL];omega
theorem sE {l:List Ac} {x:Ac} (h:x∈l):dpE x<=dpL l:=(dpL_le.1 (zQW _)) x h
theorem tV:∀ (fu:Nat) (e:Ac),dpE e<=fu->szE e<=1000000000->dW fu e=some (szE e:Int)
 | 0,e,h,_=>by rw [fL] at h;omega
 | fu+1,e,h,hs=>by
  rw [fL] at h;have hse:=lB e;have hl:=sH e.args;unfold dW;rw [oN (s:=((1:Int),(0:Int))) (λi=>((1:Int)+(szL (e.args.take i):Int),(i:Int))) e.args.length (o:=(1:Int)+(szL e.args:Int)) rfl (by omega) ?_ ?_]
  ·rw [aA]
   congr 1
   omega
  ·intro i hi;have hm:=List.getElem_mem hi;have h1:=sE hm;have h2:=lR hm;have hq:e.args.take (i+1)=e.args.take i++[e.args[i]]:=by rw [List.take_add_one,zQR hi];rfl
   have hn:szL (e.args.take (i+1))=szL (e.args.take i)+szE e.args[i]:=by rw [hq,qL];simp [szL]
   have hle:szL (e.args.take (i+1))<=szL e.args:=by
    have:=qL (e.args.take (i+1)) (e.args.drop (i+1));rw [List.take_append_drop] at this;omega
   dsimp only;rw [if_pos (by omega),aL (zQR hi),tV fu e.args[i] (by omega) (by omega),aA,aB (by unfold I64;omega),aB (by unfold I64;omega)]
   congr 3
   omega
  dsimp only;rw [if_neg (by omega),List.take_length];rfl
theorem qAY {e:Ac} (hs:szE e<=1000000000):fZ e=some (szE e:Int):=by
 unfold fZ;exact tV aU e (by have:=oT e;unfold aU;omega) hs
theorem qJJ (a b:List Ac):dpL (a++b)=max (dpL a) (dpL b):=by
 induction a with
 | nil=>simp [dpL]
 | cons x r ih=>simp only [List.cons_append,dpL,ih];omega
theorem sS:∀ (fu:Nat) (e:Ac),dpE e<=fu->szE e<=1000000000->dM fu e=some (dpE e:Int)
 | 0,e,h,_=>by rw [fL] at h;omega
 | fu+1,e,h,hs=>by
  rw [fL] at h;have hse:=lB e;have hde:=fL e;have hds:=oT e;have hl:=sH e.args;unfold dM;rw [oN (s:=((0:Int),(0:Int))) (λi=>((dpL (e.args.take i):Int),(i:Int))) e.args.length (o:=(dpL e.args:Int)) rfl (by omega) ?_ ?_]
  ·rw [aA, aB (by unfold I64; omega)]
   congr 1
   omega
  ·intro i hi;have hm:=List.getElem_mem hi;have h1:=sE hm;have h2:=lR hm;have hq:e.args.take (i+1)=e.args.take i++[e.args[i]]:=by rw [List.take_add_one,zQR hi];rfl
   have hn:dpL (e.args.take (i+1))=max (dpL (e.args.take i)) (dpE e.args[i]):=by rw [hq,qJJ];simp [dpL]
   dsimp only;rw [if_pos (by omega),aL (zQR hi),sS fu e.args[i] (by omega) (by omega),aA,aB (by unfold I64;omega)]
   congr 3
   omega
  dsimp only;rw [if_neg (by omega),List.take_length];rfl
theorem qGZ {e:Ac} (hs:szE e<=1000000000):jE e=some (dpE e:Int):=by
 unfold jE;exact sS aU e (by have:=oT e;unfold aU;omega) hs
theorem uP (n:Int):∀ (fu:Nat) (e:Ac),dpE e<=fu->szE e<=1000000000->dH fu e n=some (cW n e)
 | 0,e,h,_=>by rw [fL] at h;omega
 | fu+1,e,h,hs=>by
  rw [fL] at h;have hse:=lB e;have hl:=sH e.args;have hg:cW n e=(eG n e.op e.var e.args.length&&hU n e.args):=by cases e;rw [cW]
  have hgl:hU n e.args=!(e.args.any λx=>!cW n x):=by
   rw [Bool.eq_iff_iff,pJ];simp
  have hloop : bE (ρ := Unit ⊕ Bool) (fun i20 =>
    if i20 < (e.args.length : Int) then
     aW e.args i20 fun e23 =>
     aC ((dH fu) e23 n) fun r24 =>
     if (!(r24)) = true then
      aH (
       aH (
        some false))
     else
      aD (I64 (i20 + (1 : Int))) <|
      some (.inl (i20 + (1 : Int)))
    else
     aH (
      some (.inl ()))) (0 : Int) = some (if (e.args.any fun x => !cW n x) = true then (.inr false : Unit ⊕ Bool) else .inl ()) := by
   refine dS (ρ:=Unit ⊕ Bool) e.args (λx=>!cW n x) (Sum.inr false) (Sum.inl ()) (by omega) ?_ ?_
   ·intro i x hx;have hi:=(zQQ.1 hx).1;have hm:=zQM hx;have h1:=sE hm;have h2:=lR hm;rw [if_pos (by omega),aL hx,uP n fu x (by omega) (by omega),aA,aB (by unfold I64;omega)];cases cW n x<;>rfl
   rw [if_neg (by omega)];rfl
  unfold dH;rw [hloop,hg,hgl]
  have leaf:e.op=1\/e.op=2->some ((decide (e.var=0))&&(decide ((e.args.length:Int)=0)))=some (eG n e.op e.var e.args.length&&!(e.args.any λx=>!cW n x)):=λh=>by
   have hf:eG n e.op e.var e.args.length=decide (e.var=0/\e.args.length=0):=by unfold eG;rw [if_pos h]
   rw [hf];by_cases hk:e.var=0/\e.args.length=0
   ·have ha:e.args=[]:=List.length_eq_zero_iff.1 hk.2;simp [hk.1,ha]
   rw [decide_eq_false hk,Bool.false_and]
   congr 1
   rw [Bool.and_eq_false_iff,decide_eq_false_iff_not,decide_eq_false_iff_not];omega
  by_cases h1:e.op=1
  ·rw [if_pos h1,aA,decide_eq_true h1,if_pos rfl,bQ,aZ];exact leaf (.inl h1)
  rw [if_neg h1,aA];by_cases h2:e.op=2
  ·rw [decide_eq_true h2,if_pos rfl,bQ,aZ];exact leaf (.inr h2)
  have h12 : ¬ (e.op = 1 \/ e.op = 2) := by omega
  rw [decide_eq_false h2,if_neg Bool.false_ne_true];by_cases h3:e.op=3
  ·have hf : eG n e.op e.var e.args.length = decide (0 <= e.var /\ e.var < n /\ e.args.length = 0) := by unfold eG; rw [if_neg h12, if_pos h3]
   rw [if_pos h3,bQ,aZ,hf];by_cases hk:0<=e.var/\e.var < n/\e.args.length=0
   ·have ha:e.args=[]:=List.length_eq_zero_iff.1 hk.2.2;simp [hk.1,hk.2.1,ha]
   rw [decide_eq_false hk,Bool.false_and]
   congr 1
   rw [Bool.and_eq_false_iff,Bool.and_eq_false_iff,decide_eq_false_iff_not,decide_eq_false_iff_not,decide_eq_false_iff_not];omega
  rw [if_neg h3];by_cases h4:e.op=4
  ·have hf : eG n e.op e.var e.args.length = decide (e.args.length = 1 /\ e.var = 0) := by unfold eG; rw [if_neg h12, if_neg h3, if_pos h4]
   rw [if_pos h4,hf];by_cases hk:e.args.length=1
   ·rw [if_pos (by omega), bN];cases e.args.any λx=>!cW n x<;>simp [hk]
   rw [if_neg (by omega), bQ, aZ];simp [hk]
  rw [if_neg h4];by_cases h5:e.op=5
  ·have hf : eG n e.op e.var e.args.length = decide (e.var = 0) := by unfold eG; rw [if_neg h12, if_neg h3, if_neg h4, if_pos (.inl h5)]
   rw [if_pos h5,bN,hf];cases e.args.any λx=>!cW n x<;>simp
  rw [if_neg h5];by_cases h6:e.op=6
  ·have hf : eG n e.op e.var e.args.length = decide (e.var = 0) := by unfold eG; rw [if_neg h12, if_neg h3, if_neg h4, if_pos (.inr h6)]
   rw [if_pos h6,bN,hf];cases e.args.any λx=>!cW n x<;>simp
  have hf : eG n e.op e.var e.args.length = false := by unfold eG; rw [if_neg h12, if_neg h3, if_neg h4, if_neg (by omega)]
  rw [if_neg h6,bQ,aZ,hf];rfl
theorem qJI (n:Int) {e:Ac} (hs:szE e<=1000000000):kH e n=some (cW n e):=by
 unfold kH;exact uP n aU e (by have:=oT e;unfold aU;omega) hs
theorem qAO (n:Int) {e:Ac} (hs:szE e<=1000000000):gP e n=some (qIC n e):=by
 unfold gP;rw [qAY hs,aA];by_cases h1:(szE e:Int)<=20000
 ·rw [if_pos h1,qGZ hs,aA];by_cases h2:(dpE e:Int)<=12
  ·rw [if_pos h2,qJI n hs,aA,aA]
   congr 1
   cases hg:cW n e with
   | false=>exact (decide_eq_false (show ¬ hL n 1 20000 e from λh=>by rw [h.1] at hg;cases hg)).symm
   | true=>exact (decide_eq_true (show hL n 1 20000 e from ⟨hg,by omega,h1⟩)).symm
  rw [if_neg h2,aA]
  congr 1
  exact (decide_eq_false (show ¬ hL n 1 20000 e from λh=>by have:=h.2.1;omega)).symm
 rw [if_neg h1,aA]
 congr 1
 exact (decide_eq_false (show ¬ hL n 1 20000 e from λh=>by have:=h.2.2;omega)).symm
theorem nJ (v:List Bool):∀ (fu:Nat) (e:Ac),dpE e<=fu->szE e<=1000000000->cS fu e v=some (evE v e)
 | 0,e,h,_=>by rw [fL] at h;omega
 | fu+1,e,h,hs=>by
  rw [fL] at h;have hse:=lB e;have hl:=sH e.args;rw [lY];unfold cS opB;by_cases h2:e.op=2
  ·rw [if_pos h2,bQ,aZ,if_neg (by omega),if_neg (by omega),if_neg (by omega),if_neg (by omega),decide_eq_true h2]
  rw [if_neg h2];by_cases h3:e.op=3
  ·rw [if_pos h3,if_pos h3];by_cases h0:0<=e.var
   ·rw [if_pos h0];by_cases hv:e.var < (v.length:Int)
    ·have hget:v[e.var.toNat]?=some (v.getD e.var.toNat false):=by
      rw [zQD,zQR (by omega)];rfl
     rw [if_pos hv,fH h0 hget,aA,bQ,aZ,decide_eq_true h0,Bool.true_and]
    rw [if_neg hv, aA, bQ, aZ, zQD, List.getElem?_eq_none (by omega)];simp
   rw [if_neg h0,aA,bQ,aZ,decide_eq_false h0,Bool.false_and]
  rw [if_neg h3,if_neg h3];by_cases h4:e.op=4
  ·rw [if_pos h4,if_pos h4]
   cases ha:e.args with
   | nil=>
    rw [if_neg (by simp),aA,bQ,aZ];rfl
   | cons x r=>
    have hm:x∈e.args:=by rw [ha];exact List.mem_cons_self ..
    have q1:=sE hm;have q2:=lR hm;rw [if_pos (by simp),fH (by omega) (by rfl),nJ v fu x (by omega) (by omega),aA,aA,bQ,aZ];rfl
  rw [if_neg h4,if_neg h4]
  have hloop : ∀ c : Bool, bE (ρ := Unit ⊕ (Unit ⊕ Bool)) (fun i24 =>
      if i24 < (e.args.length : Int) then
       aW e.args i24 fun e27 =>
       aC ((cS fu) e27 v) fun r28 =>
       if ((r28 == c)) = true then
        aH (
         aH (
          aH (
           some c)))
       else
        aD (I64 (i24 + (1 : Int))) <|
        some (.inl (i24 + (1 : Int)))
      else
       aH (
        some (.inl ()))) (0 : Int) = some (if (e.args.any fun x => evE v x == c) = true then .inr (.inr c) else .inl ()) := fun c => by
   refine dS (ρ:=Unit ⊕ (Unit ⊕ Bool)) e.args (λx=>evE v x == c) (Sum.inr (Sum.inr c)) (Sum.inl ()) (by omega) ?_ ?_
   ·intro i x hx;have hi:=(zQQ.1 hx).1;have hm:=zQM hx;have q1:=sE hm;have q2:=lR hm;rw [if_pos (by omega),aL hx,nJ v fu x (by omega) (by omega),aA,aB (by unfold I64;omega)];cases evE v x == c<;>rfl
   rw [if_neg (by omega)];rfl
  by_cases h5:e.op=5
  ·have h6 : ¬ e.op = 6 := by omega
   rw [if_pos h5,if_pos h5,aA,decide_eq_true h5,if_pos rfl,decide_eq_false h6,hloop false]
   have:(e.args.map (evE v)).all id=!(e.args.any λx=>evE v x == false):=by
    rw [List.all_map,List.all_eq_not_any_not]
    congr 2
    funext x
    show (!(evE v x))=(evE v x == false);cases evE v x<;>rfl
   rw [this];cases (e.args.any λx=>evE v x == false)<;>rfl
  rw [if_neg h5,if_neg h5,aA];by_cases h6:e.op=6
  ·rw [if_pos h6,decide_eq_true h6,if_pos rfl,decide_eq_false h5,hloop true]
   have:(e.args.map (evE v)).any id=(e.args.any λx=>evE v x == true):=by
    rw [List.any_map]
    congr 1
    funext x
    show evE v x=(evE v x == true);cases evE v x<;>rfl
   rw [this];cases (e.args.any λx=>evE v x == true)<;>rfl
  rw [if_neg h6,decide_eq_false h6,if_neg (by simp),bN,decide_eq_false h2]
theorem yW (v:List Bool) {e:Ac} (hs:szE e<=1000000000):iO e v=some (evE v e):=by
 unfold iO;exact nJ v aU e (by have:=oT e;unfold aU;omega) hs
theorem qIU (x:Aa):szE x.expr<=x.enc.bulk:=by
 have:=vD x.expr;rw [Ac.Ag] at this;simp only [Aa.enc,Ac.enc,D.bulk,D.bulks] at *;omega
theorem yG {e:Aa} (m:Machine) (ho:okE e.expr) (hs:szE e.expr<=1000000000):eE e m=some (!(evE m.vars e.expr)):=by
 unfold eE;rw [qCJ m.vars (by have:=oT e.expr;unfold aU;omega) ho,aA]
def vZ (l:List Aa) (m:Machine):Int:=if (l.findIdx λe=>!(evE m.vars e.expr)) < l.length then (l.findIdx λe=>!(evE m.vars e.expr):Nat) else -1
theorem qDL {l : List Aa} (m : Machine) (hl : l.length <= iQ) (g : Aa -> Option Bool) (hg : ∀ e ∈ l, g e = some (!(evE m.vars e.expr))) : bE (ρ := Unit ⊕ Int) (fun x3 =>
   if x3 < (l.length : Int) then
    aW l x3 fun e6 =>
    aC (g e6) fun r7 =>
    if r7 = true then
     aH (
      aH (
       some x3))
    else
     aD (I64 (x3 + (1 : Int))) <|
     some (.inl (x3 + (1 : Int)))
   else
    aH (
     some (.inl ()))) (0 : Int) = some (if (l.findIdx fun e => !(evE m.vars e.expr)) < l.length then .inr (l.findIdx fun e => !(evE m.vars e.expr) : Nat) else .inl ()) := by
 obtain ⟨o, h1, h2⟩ := qS (f := fun (x3 : Int) =>
   if x3 < (l.length : Int) then
    aW l x3 fun e6 =>
    aC (g e6) fun r7 =>
    if r7 = true then
     aH (
      aH (
       some x3))
    else
     aD (I64 (x3 + (1 : Int))) <|
     some (.inl (x3 + (1 : Int)))
   else
    aH (
     some (.inl ()))) (s := (0 : Int))
  (λ(o:Unit ⊕ Int)=>o=if (l.findIdx λe=>!(evE m.vars e.expr)) < l.length then .inr (l.findIdx λe=>!(evE m.vars e.expr):Nat) else .inl ())
  (fun i s => s = (i : Int) /\ i <= l.findIdx fun e => !(evE m.vars e.expr)) l.length hl ⟨rfl, Nat.zero_le _⟩ (fun i hi s hI => by
   obtain ⟨rfl, h2⟩ := hI;rw [if_pos (by omega), aL (zQR hi), hg _ (List.getElem_mem hi), aA]
   cases hb : !(evE m.vars l[i].expr) with
   | true =>
    right
    have hf : (l.findIdx fun e => !(evE m.vars e.expr)) = i := by
     refine Nat.le_antisymm ?_ h2;by_cases h : (l.findIdx fun e => !(evE m.vars e.expr)) <= i
     ·exact h
     exact absurd hb (by simpa using List.not_of_lt_findIdx (Nat.lt_of_not_le h))
    refine ⟨_, rfl, ?_⟩;rw [hf, if_pos hi]
   | false =>
    left;rw [if_neg (by simp), aB (bJ hi hl)];refine ⟨_, rfl, by push_cast; rfl, ?_⟩;rcases Nat.lt_or_ge i (l.findIdx fun e => !(evE m.vars e.expr)) with h | h
    ·omega
    have h3 : (l.findIdx fun e => !(evE m.vars e.expr)) = i := Nat.le_antisymm h h2;have h4 : (l.findIdx fun e => !(evE m.vars e.expr)) < l.length := by omega
    have h5 := List.findIdx_getElem (w := h4);simp only [h3] at h5;rw [hb] at h5
    cases h5) (fun s hI => by
   obtain ⟨rfl, h2⟩ := hI;rw [if_neg (by omega)];refine ⟨_, rfl, ?_⟩
   rw [if_neg (by omega)])
 rw [h1,h2]
theorem qHV {l:List Aa} (m:Machine) (hl:l.length<=iQ) (h:∀ e∈l,okE e.expr/\szE e.expr<=1000000000):fQ l m=some (vZ l m):=by
 unfold fQ cE vZ;rw [qDL m hl _ λe he=>yG m (h e he).1 (h e he).2];split<;>rfl
mutual
def lK (x:Int) (b:Ac):Ac->Ac
 | ⟨op,v,l⟩=>if op=3/\v=x then b else ⟨op,v,kY x b l⟩
def kY (x:Int) (b:Ac):List Ac->List Ac
 | []=>[]
 | e :: r=>lK x b e :: kY x b r
end
mutual
def qAG (x:Int):Ac->Nat
 | ⟨op,v,l⟩=>(if op=3/\v=x then 1 else 0)+qAF x l
def qAF (x:Int):List Ac->Nat
 | []=>0
 | e :: r=>qAG x e+qAF x r
end
theorem rP (x:Int) (b:Ac):∀ l,kY x b l=l.map (lK x b)
 | []=>by simp [kY]
 | e :: r=>by simp [kY,rP x b r]
theorem qIM (x:Int) (b e:Ac):lK x b e=if e.op=3/\e.var=x then b else ⟨e.op,e.var,e.args.map (lK x b)⟩:=by
 cases e with
 | mk o v l=>rw [lK,rP]
mutual
theorem cnt_sz (x:Int):∀ e,qAG x e<=szE e
 | ⟨o,v,l⟩=>by
  have:=qCC x l;simp only [qAG,szE];split<;>omega
theorem qCC (x:Int):∀ l,qAF x l<=szL l
 | []=>by simp [qAF,szL]
 | e :: r=>by
  have:=cnt_sz x e;have:=qCC x r;simp only [qAF,szL];omega
end
mutual
theorem rep_sz (x:Int) (b:Ac):∀ e,szE (lK x b e)<=szE e+qAG x e * (szE b - 1)
 | ⟨o,v,l⟩=>by
  have h1:=qBC x b l;have h2:=vC b;simp only [qAG,szE,lK];split
  ·rw [Nat.add_mul];omega
  simp only [szE,Nat.zero_add];omega
theorem qBC (x:Int) (b:Ac):∀ l,szL (kY x b l)<=szL l+qAF x l * (szE b - 1)
 | []=>by simp [kY,szL]
 | e :: r=>by
  have h1:=rep_sz x b e;have h2:=qBC x b r;simp only [qAF,szL,kY];rw [Nat.add_mul];omega
end
theorem qDH {n m op x:Int} {k:Nat} (h:n<=m) (hf:eG n op x k=true):eG m op x k=true:=by
 unfold eG at *;by_cases h1:op=1\/op=2
 ·rw [if_pos h1] at *; exact hf
 rw [if_neg h1] at *;by_cases h3:op=3
 ·rw [if_pos h3] at *;simp only [decide_eq_true_eq] at *;omega
 rw [if_neg h3] at *;exact hf
mutual
theorem qFI {n m:Int} (x:Int) {b:Ac} (hnm:n<=m) (hb:cW m b=true):∀ e,cW n e=true->cW m (lK x b e)=true
 | ⟨o,v,l⟩,h=>by
  simp only [cW,zQA] at h;have h1:=uF x hnm hb l h.2;simp only [lK];split
  ·exact hb
  simp only [cW,zQA];have hl:(kY x b l).length=l.length:=by rw [rP,zQC]
  rw [hl];exact⟨qDH hnm h.1,h1⟩
theorem uF {n m:Int} (x:Int) {b:Ac} (hnm:n<=m) (hb:cW m b=true):∀ l,hU n l=true->hU m (kY x b l)=true
 | [],_=>by simp [kY,hU]
 | e :: r,h=>by
  simp only [hU,zQA] at h;simp only [kY,hU,zQA];exact⟨qFI x hnm hb e h.1,uF x hnm hb r h.2⟩
end
mutual
theorem rep_dp {n:Int} (x:Int) (b:Ac):∀ e,cW n e=true->dpE e<=dpE (lK x b e)
 | ⟨o,v,l⟩,h=>by
  simp only [cW,zQA] at h;have h1:=qBD x b l h.2;simp only [lK];split
  ·rename_i hc;have hf:=h.1;unfold eG at hf;rw [if_neg (by omega),if_pos hc.1,decide_eq_true_eq] at hf;have:l=[]:=List.length_eq_zero_iff.1 hf.2.2;subst this;have:=fL b;simp only [dpE,dpL];omega
  simp only [dpE];omega
theorem qBD {n:Int} (x:Int) (b:Ac):∀ l,hU n l=true->dpL l<=dpL (kY x b l)
 | [],_=>by simp [kY]
 | e :: r,h=>by
  simp only [hU,zQA] at h;have h1:=rep_dp x b e h.1;have h2:=qBD x b r h.2;simp only [kY,dpL];omega
end
mutual
theorem qFH {n x:Int} (b:Ac) (hx:x < 0\/n<=x):∀ e,cW n e=true->lK x b e=e
 | ⟨o,v,l⟩,h=>by
  simp only [cW,zQA] at h;have h1:=uE b hx l h.2;simp only [lK];split
  ·rename_i hc;have hf:=h.1;unfold eG at hf;rw [if_neg (by omega),if_pos hc.1,decide_eq_true_eq] at hf;omega
  rw [h1]
theorem uE {n x:Int} (b:Ac) (hx:x < 0\/n<=x):∀ l,hU n l=true->kY x b l=l
 | [],_=>by simp [kY]
 | e :: r,h=>by
  simp only [hU,zQA] at h;simp only [kY,qFH b hx e h.1,uE b hx r h.2]
end
def iG (n inp:Int) (r:Af):Bool:=(decide (r.kind=1/\r.Ae=0)||decide (r.kind=2/\1<=r.Ae/\r.Ae<=1073741824))&&(decide (inp<=r.var/\r.var < n)&&qIC n r.expr)
theorem vG (p:Go.Proofs.YtciilodpnepdbaaDoor.Program) {r:Af} (ho:okE r.expr):fD p r=some (iG (p.names.length:Int) p.inputs r):=by
 unfold fD iG
 have tail : aC (
  if p.inputs <= r.var then
   if r.var < (p.names.length : Int) then
    aC (gE r.expr (p.names.length : Int)) fun r14 =>
    some r14
   else
    some false
  else
   some false) (fun x10 =>
 some x10) = some (decide (p.inputs <= r.var /\ r.var < (p.names.length : Int)) && qIC (p.names.length : Int) r.expr) := by
  by_cases h1:p.inputs<=r.var
  ·rw [if_pos h1];by_cases h2:r.var < (p.names.length:Int)
   ·rw [if_pos h2,qHQ _ ho,aA,aA,decide_eq_true ⟨h1,h2⟩,Bool.true_and]
   rw [if_neg h2,aA,decide_eq_false (λh=>h2 h.2),Bool.false_and]
  rw [if_neg h1,aA,decide_eq_false (λh=>h1 h.1),Bool.false_and]
 by_cases h1:r.kind=1
 ·rw [if_pos h1];by_cases h0:r.Ae=0
  ·rw [if_pos h0,bN,tail,decide_eq_true (⟨h1,h0⟩:r.kind=1/\r.Ae=0),Bool.true_or,Bool.true_and]
  rw [if_neg h0, bQ, aZ, decide_eq_false (by omega), decide_eq_false (by omega)];rfl
 rw [if_neg h1];by_cases h2:r.kind=2
 ·rw [if_pos h2];by_cases h0:r.Ae < 1\/1073741824 < r.Ae
  ·rw [if_pos (by simpa using h0), bQ, aZ, decide_eq_false (by omega), decide_eq_false (by omega)];rfl
  rw [if_neg (by simpa using h0),bN,tail,decide_eq_true (show r.kind=2/\1<=r.Ae/\r.Ae<=1073741824 by omega),Bool.or_true,Bool.true_and]
 rw [if_neg h2, bQ, aZ, decide_eq_false (by omega), decide_eq_false (by omega)];rfl
def bU (p:Go.Proofs.YtciilodpnepdbaaDoor.Program):Int:=
 if 2000 < p.names.length then 2
 else if p.inputs < 0\/(p.names.length:Int) < p.inputs then 1
 else if p.Ab.all (iG (p.names.length:Int) p.inputs)=false then 1
 else if (p.Ab.map (·.var)).Nodup then 0 else 8
def nD (n:Nat) (l:List Int):List Bool:=(List.range n).map λ(j:Nat)=>decide ((j:Int)∈l)
theorem qDA (n:Nat) (l:List Int):(nD n l).length=n:=by simp [nD]
theorem sF {n:Nat} {l:List Int} {x:Int} (h0:0<=x) (h1:x < (n:Int)):(nD n l)[x.toNat]?=some (decide (x∈l)):=by
 unfold nD;rw [zQP,List.getElem?_range (by omega)];simp only [Option.map_some];rw [show ((x.toNat:Nat):Int)=x by omega]
theorem qCZ {n:Nat} {l:List Int} {x:Int} (h0:0<=x) (h1:x < (n:Int)):(nD n l).set x.toNat true=nD n (l++[x]):=by
 apply List.ext_getElem?;intro j;rw [List.getElem?_set,qDA];by_cases hj:x.toNat=j
 ·subst hj;rw [if_pos rfl,if_pos (by omega),sF h0 h1];simp
 rw [if_neg hj];unfold nD;rw [zQP,zQP]
 cases hr:(List.range n)[j]? with
 | none=>rfl
 | some k=>
  have hk:k=j:=by
   rw [zQQ] at hr;obtain⟨hr1,hr2⟩:=hr;rw [List.getElem_range] at hr2;exact hr2.symm
  subst hk;simp only [Option.map_some,zQN,List.mem_singleton]
  congr 1
  rw [Bool.eq_iff_iff];simp only [decide_eq_true_eq];constructor
  ·intro h;exact .inl h
  rintro (h|h)
  ·exact h
  omega
theorem nodup_take {l:List Int}:l.Nodup↔∀ (i:Nat) (x:Int),l[i]?=some x->x∉l.take i:=by
 constructor
 ·intro h i x hx hm;have hi:=(zQQ.1 hx).1;obtain⟨j,hj,he⟩:=List.mem_take_iff_getElem.1 hm;rw [pG] at h;refine h j i (by omega) hi ?_;rw [hx,zQR (by omega),he]
 intro h;rw [pG];intro a c hac hc he;have hx:=zQR hc;rw [hx] at he;refine h c _ hx (List.mem_take_iff_getElem.2 ⟨a,by omega,?_⟩);exact (zQQ.1 he).2
structure POk (p:Go.Proofs.YtciilodpnepdbaaDoor.Program):Prop where
 Ab:p.Ab.length<=1000000000
 names:p.names.length<=9000000000000000000
 exprs:∀ r∈p.Ab,okE r.expr
theorem pF {p:Go.Proofs.YtciilodpnepdbaaDoor.Program} (h:POk p):gB p=some (bU p):=by
 have hr:=h.Ab;unfold gB bU;by_cases h1:2000 < p.names.length
 ·rw [if_pos (by omega),if_pos h1]
 rw [if_neg (by omega), if_neg h1];by_cases h2:p.inputs < 0\/(p.names.length:Int) < p.inputs
 ·rw [if_pos (by simpa using h2),if_pos h2]
 rw [if_neg (by simpa using h2), if_neg h2, dS p.Ab (fun r => !iG (p.names.length : Int) p.inputs r) (.inr 1) (.inl ()) (by omega) (fun i r hx => ?_) (by rw [if_neg (by omega)]; rfl)]
 ·rw [iA]
  cases ha:p.Ab.all (iG (p.names.length:Int) p.inputs) with
  | false=>rw [Bool.not_false,if_pos rfl,aZ,if_pos rfl]
  | true=>
   rw [Bool.not_true,if_neg Bool.false_ne_true,bN,if_neg (by simp),aB (by omega)];rw [zQT] at ha
   have hv:∀ r∈p.Ab,0<=r.var/\r.var < (p.names.length:Int):=by
    intro r hr;have:=ha r hr;unfold iG at this;simp only [zQA,decide_eq_true_eq] at this;omega
   have hn:((p.names.length:Int)).toNat=p.names.length:=by omega
   rw [hn,qDC p.Ab.length (λi=>nD p.names.length ((p.Ab.map (·.var)).take i)) (λi=>match p.Ab[i]? with|some r=>decide (r.var∈(p.Ab.map (·.var)).take i)|none=>false) (.inr 8) (.inl (nD p.names.length (p.Ab.map (·.var)))) (by simp [nD,List.map_const']) (by omega) (λi hi _=>?_) (λ_=>by dsimp only;rw [if_neg (by omega),List.take_of_length_le (by simp)];rfl)]
   ·by_cases hd:(p.Ab.map (·.var)).Nodup
    ·rw [if_pos hd,if_neg ?_,bN];rw [zQU];rintro⟨i,hi,hc⟩;rw [List.mem_range] at hi;rw [zQR hi] at hc;exact nodup_take.1 hd i p.Ab[i].var (by simp [hi]) (of_decide_eq_true hc)
    rw [if_neg hd,if_pos ?_,aZ];rw [zQU];rw [nodup_take] at hd;simp only [Classical.not_forall,Classical.not_not] at hd;obtain⟨i,x,hx,hm⟩:=hd;have hi:=(zQQ.1 hx).1;rw [zQC] at hi;refine⟨i,List.mem_range.2 hi,?_⟩;rw [zQP,zQR hi] at hx;simp only [Option.map_some,Option.some.injEq] at hx;rw [zQR hi];subst hx;exact decide_eq_true hm
   have hx:=zQR hi;have hvi:=hv _ (List.getElem_mem hi);dsimp only;rw [if_pos (by omega),aL hx,fH hvi.1 (sF hvi.1 hvi.2),hx];dsimp only;by_cases hm:p.Ab[i].var∈(p.Ab.map (·.var)).take i
   ·simp only [decide_eq_true hm];rfl
   simp only [decide_eq_false hm, Bool.false_eq_true, if_false]; rw [fH hvi.1 (sF hvi.1 hvi.2), aB (bJ hi (by omega)), qCZ hvi.1 hvi.2];rw [List.take_add_one (l:=p.Ab.map (·.var)),zQP,hx];rfl
 have hi:=(zQQ.1 hx).1;rw [if_pos (by omega),aL hx,vG p (h.exprs r (zQM hx)),aA,aB (bJ hi (by omega))];rfl
theorem cJ {p:Go.Proofs.YtciilodpnepdbaaDoor.Program} (h:bU p=0):p.names.length<=2000/\0<=p.inputs/\p.inputs<=(p.names.length:Int)/\(∀ r∈p.Ab,iG (p.names.length:Int) p.inputs r=true)/\(p.Ab.map (·.var)).Nodup:=by
 unfold bU at h;split at h
 ·cases h
 split at h
 ·cases h
 split at h
 ·cases h
 split at h
 ·rename_i h1 h2 h3 h4;refine⟨by omega,by omega,by omega,?_,h4⟩;rw [<- zQT];simpa using h3
 cases h
def bF (p:Go.Proofs.YtciilodpnepdbaaDoor.Program):Machine:=if bU p=0 then ⟨List.replicate p.names.length false,List.replicate p.Ab.length 0,false⟩ else ⟨[],[],true⟩
def qGR (p:Go.Proofs.YtciilodpnepdbaaDoor.Program):Machine:=⟨(bF p).vars,(bF p).counts,true⟩
theorem uJ {p:Go.Proofs.YtciilodpnepdbaaDoor.Program} (h:POk p):eI p=some (bF p):=by
 unfold eI bF;rw [pF h,aA];by_cases hz:bU p=0
 ·have:=cJ hz;have:=h.Ab;rw [if_pos hz,if_pos hz,aB (by omega),aB (by omega),show ((p.names.length:Int)).toNat=p.names.length by omega,show ((p.Ab.length:Int)).toNat=p.Ab.length by omega]
 rw [if_neg hz,if_neg hz]
theorem qFV {p:Go.Proofs.YtciilodpnepdbaaDoor.Program} (h:POk p):lO p=some (qGR p):=by
 unfold lO;rw [uJ h,aA];rfl
def qI (r:Af) (c:Int):Bool:=decide (0<=c/\c<=r.Ae)
def cR (p:Go.Proofs.YtciilodpnepdbaaDoor.Program) (m:Machine):Bool:=decide (bU p=0/\m.vars.length=p.names.length/\m.counts.length=p.Ab.length)&&(List.zip p.Ab m.counts).all λx=>qI x.1 x.2
theorem qFW {p:Go.Proofs.YtciilodpnepdbaaDoor.Program} (h:POk p) (m:Machine):jU p m=some (cR p m):=by
 have hr:=h.Ab;unfold jU cR;rw [pF h,aA];by_cases hh:bU p=0/\m.vars.length=p.names.length/\m.counts.length=p.Ab.length
 ·obtain⟨h1,h2,h3⟩:=hh;have hzl:(List.zip p.Ab m.counts).length=p.Ab.length:=by rw [List.length_zip];omega
  rw [if_pos h1,if_pos (by omega),aA,decide_eq_true (show (m.counts.length:Int)=(p.Ab.length:Int) by omega),if_neg (by simp),decide_eq_true ⟨h1,h2,h3⟩,Bool.true_and];rw [dS (List.zip p.Ab m.counts) (λx=>!qI x.1 x.2) (.inr false) (.inl ()) (by omega) (λi x hx=>?_) (by rw [if_neg (by omega)];rfl),iA]
  ·cases (List.zip p.Ab m.counts).all (λx=>qI x.1 x.2)<;>rfl
  have hi:=(zQQ.1 hx).1;obtain⟨r,c⟩:=x;rw [List.getElem?_zip_eq_some] at hx;obtain⟨hx1,hx2⟩:=hx;dsimp only at hx1 hx2 ⊢;rw [if_pos (by omega),aL hx1,aL hx2,aL hx2,aB (bJ hi (by omega))];unfold qI;by_cases hc:c < 0
  ·rw [if_pos hc, aA, if_pos rfl, if_pos (by rw [decide_eq_false (by omega)]; rfl)];rfl
  rw [if_neg hc,aA];by_cases hd:r.Ae < c
  ·rw [decide_eq_true hd,if_pos rfl,if_pos (by rw [decide_eq_false (by omega)];rfl)];rfl
  rw [decide_eq_false hd,if_neg (by simp),if_neg (by rw [decide_eq_true (by omega)];simp)]
 rw [decide_eq_false hh,Bool.false_and]
 have e1:(if bU p=(0:Int) then if (m.vars.length:Int)=(p.names.length:Int) then some (!(decide ((m.counts.length:Int)=(p.Ab.length:Int)))) else some true else some true)=some true:=by
  by_cases h1:bU p=0
  ·rw [if_pos h1];by_cases h2:m.vars.length=p.names.length
   ·rw [if_pos (by omega),decide_eq_false (by omega)];rfl
   rw [if_neg (by omega)]
  rw [if_neg h1]
 rw [e1,aA,if_pos rfl]
def iX (r:Af) (v:Bool) (c:Int):Int×Bool:=if r.kind=2 then (if v=true then (if c < r.Ae then (c+1,decide (c+1=r.Ae)) else (c,decide (c=r.Ae))) else (0,false)) else (c,v)
def nV (V:List Bool) (x:Af×Int):List Bool:=V.set x.1.var.toNat (iX x.1 (evE V x.1.expr) x.2).2
def fA (l:List (Af×Int)) (V:List Bool):List Bool:=l.foldl nV V
theorem qCL (V:List Bool) (x:Af×Int):(nV V x).length=V.length:=by unfold nV;rw [List.length_set]
theorem lI:∀ (l:List (Af×Int)) (V:List Bool),(fA l V).length=V.length
 | [],V=>rfl
 | x :: l,V=>by
  show (fA l (nV V x)).length=V.length;rw [lI l,qCL]
theorem rM (a b:List (Af×Int)) (V:List Bool):fA (a++b) V=fA b (fA a V):=by unfold fA;rw [List.foldl_append]
def gG (l:List (Af×Int)) (V:List Bool):List Int:=l.mapIdx λi x=>(iX x.1 (evE (fA (l.take i) V) x.1.expr) x.2).1
theorem iT (l:List (Af×Int)) (V:List Bool):(gG l V).length=l.length:=by simp [gG]
def inV (n:Nat) (I V:List Bool):List Bool:=(List.range n).map (λi=>I.getD i false)++V.drop n
theorem oO {n:Nat} {I V:List Bool} (h:n<=V.length):(inV n I V).length=V.length:=by unfold inV;simp;omega
def bZ (p:Go.Proofs.YtciilodpnepdbaaDoor.Program) (m:Machine) (I:List Bool):Machine:=
 if m.halted=true\/cR p m=false then qGR p
 else ⟨fA (List.zip p.Ab m.counts) (inV p.inputs.toNat I m.vars),gG (List.zip p.Ab m.counts) (inV p.inputs.toNat I m.vars),false⟩
theorem qDO (r : Af) (c : Int) (v : Bool) (hp : r.Ae <= 1073741824) (h0 : 0 <= c) {β : Type} (k : Int -> Bool -> Option β) : aC (fP r) (fun r38 => match r38.act with
     | .c60 => aC (eD c v) fun (r43, r44) => k r43 r44
     | .c61 u48 => aC (dD c v u48) fun (r50, r51) => k r50 r51) = k (iX r v c).1 (iX r v c).2 := by
 unfold fP iX;by_cases h2:r.kind=2
 ·rw [if_pos h2,aA,if_pos h2];dsimp only;unfold dD
  cases v with
  | false=>rw [Bool.not_false,if_pos rfl,aA,if_neg Bool.false_ne_true]
  | true=>
   rw [Bool.not_true,if_neg Bool.false_ne_true,if_pos rfl];by_cases hl:c < r.Ae
   ·rw [if_pos hl,aB (by unfold I64;omega),aA,if_pos hl]
   rw [if_neg hl,aA,if_neg hl]
 rw [if_neg h2,aA,if_neg h2];rfl
theorem qFU {p:Go.Proofs.YtciilodpnepdbaaDoor.Program} (h:POk p) (m:Machine) (I:List Bool) (hd:∀ r∈p.Ab,dpE r.expr<=aU) (hv:m.vars.length<=1000000000) (hcn:m.counts.length<=1000000000):gQ p m I=some (bZ p m I):=by
 have hr:=h.Ab;unfold gQ bZ
 have e1:(if (m.halted)=true then some true else aC (jU p m) λr4=>some (!(r4)))=some (decide (m.halted=true\/cR p m=false)):=by
  cases hm:m.halted with
  | true=>rw [if_pos rfl];simp
  | false=>
   rw [if_neg Bool.false_ne_true,qFW h,aA];cases cR p m<;>rfl
 rw [e1,aA];by_cases hx:m.halted=true\/cR p m=false
 ·rw [if_pos (decide_eq_true hx),if_pos hx,qFV h,aA]
 rw [if_neg (by rw [decide_eq_false hx]; exact Bool.false_ne_true), if_neg hx];have hfit:cR p m=true:=by cases hf:cR p m with|true=>rfl|false=>exact absurd (.inr hf) hx
 unfold cR at hfit;simp only [zQA,decide_eq_true_eq,zQT] at hfit;obtain⟨⟨hz,hvl,hcl⟩,hcnt⟩:=hfit;obtain⟨hn1,hn2,hn3,hn4,hn5⟩:=cJ hz
 have hcb:dG m.vars=some m.vars:=by
  unfold dG
  cases hmv:m.vars with
  | nil=>rfl
  | cons a l=>rw [<- hmv];simp only [xW,hmv];rw [aB (by rw [<- hmv];simpa using hv)];rfl
 have hci:dR m.counts=some m.counts:=by
  unfold dR
  cases hmv:m.counts with
  | nil=>rfl
  | cons a l=>rw [<- hmv];simp only [xW,hmv];rw [aB (by rw [<- hmv];simpa using hcn)];rfl
 rw [hcb,aA,hci,aA];have hin:p.inputs=((p.inputs.toNat:Nat):Int):=by omega
 have hib:p.inputs.toNat<=m.vars.length:=by omega
 rw [hin]
 have hsetin (k:Nat) (hk:k < m.vars.length):(inV k I m.vars).set k (I.getD k false)=inV (k+1) I m.vars:=by
  unfold inV;rw [List.set_append_right _ _ (by simp),List.range_succ,List.map_append];simp only [zQC,List.length_range,Nat.sub_self,List.map_cons,List.map_nil,List.append_assoc];rw [List.drop_eq_getElem_cons hk];rfl
 rw [gS p.inputs.toNat (λk=>inV k I m.vars) (o:=inV p.inputs.toNat I m.vars) (by simp [inV]) (by omega) (λk hk=>?_) (by dsimp only;rw [if_neg (by omega)];rfl),aA]
 ·have hV0 : (inV p.inputs.toNat I m.vars).length = p.names.length := by rw [oO hib, hvl]
  rw [show ((p.inputs.toNat:Int)).toNat=p.inputs.toNat by omega];generalize inV p.inputs.toNat I m.vars=V0 at hV0;have hzl:(List.zip p.Ab m.counts).length=p.Ab.length:=by rw [List.length_zip];omega
  rw [gS p.Ab.length (λk=>(fA ((List.zip p.Ab m.counts).take k) V0,(gG (List.zip p.Ab m.counts) V0).take k++m.counts.drop k)) (o:=(fA (List.zip p.Ab m.counts) V0,gG (List.zip p.Ab m.counts) V0)) (by simp [fA]) (by omega) (λk hk=>?_) (by dsimp only;rw [if_neg (by omega),List.take_of_length_le (by omega),List.take_of_length_le (by rw [iT];omega),List.drop_of_length_le (by omega),List.append_nil];rfl),aA];have hrk:=zQR hk;obtain⟨c,hck⟩:∃ c,m.counts[k]?=some c:=⟨_,zQR (by omega)⟩;have hrm:=List.getElem_mem hk;have hrb:=hn4 _ hrm;generalize p.Ab[k]=r at hrk hrm hrb;have hzk:(List.zip p.Ab m.counts)[k]?=some (r,c):=List.getElem?_zip_eq_some.2 ⟨hrk,hck⟩;have hcb2:=hcnt _ (zQM hzk);unfold iG at hrb;simp only [zQA,Bool.or_eq_true,decide_eq_true_eq] at hrb;dsimp only at hcb2;unfold qI at hcb2;have hcb3:=of_decide_eq_true hcb2;have hVk:(fA ((List.zip p.Ab m.counts).take k) V0).length=p.names.length:=by rw [lI,hV0]
  have hcg:((gG (List.zip p.Ab m.counts) V0).take k++m.counts.drop k)[k]?=some c:=by
   rw [List.getElem?_append_right (by rw [List.length_take];omega),List.length_take,iT,hzl,show k - min k p.Ab.length=0 by omega,List.getElem?_drop];exact hck
  have hvk:0<=r.var/\r.var.toNat < p.names.length:=by omega
  have hnext:fA ((List.zip p.Ab m.counts).take (k+1)) V0=nV (fA ((List.zip p.Ab m.counts).take k) V0) (r,c):=by
   rw [List.take_add_one,hzk,rM];rfl
  have hcnx:(gG (List.zip p.Ab m.counts) V0)[k]?=some (iX r (evE (fA ((List.zip p.Ab m.counts).take k) V0) r.expr) c).1:=by
   unfold gG;rw [List.getElem?_mapIdx,hzk];rfl
  have hcset (x:Int) (hx:(gG (List.zip p.Ab m.counts) V0)[k]?=some x):((gG (List.zip p.Ab m.counts) V0).take k++m.counts.drop k).set k x=(gG (List.zip p.Ab m.counts) V0).take (k+1)++m.counts.drop (k+1):=by
   have hlt:((gG (List.zip p.Ab m.counts) V0).take k).length=k:=by rw [List.length_take,iT];omega
   rw [List.set_append_right _ _ (by omega),hlt,Nat.sub_self,List.take_add_one,hx,List.drop_eq_getElem_cons (by omega),List.set_cons_zero,List.append_assoc];rfl
  rw [hnext,<- hcset _ hcnx];unfold nV;dsimp only;rw [if_pos (by omega),aL hrk];generalize (gG (List.zip p.Ab m.counts) V0).take k++m.counts.drop k=T at hcg;generalize fA ((List.zip p.Ab m.counts).take k) V0=U at hVk;obtain⟨old,hvg⟩:∃ b,U[r.var.toNat]?=some b:=⟨_,zQR (by omega)⟩;rw [show ((k:Int)).toNat=k by omega];have hef:=qDO r c (evE U r.expr) (by omega) (by omega) (β:=(Int×List Bool×List Int) ⊕ (List Bool×List Int)) (λa b=>some (.inl ((k:Int)+1,U.set r.var.toNat b,T.set k a)));rw [<- hef];have hg64:I64 ((k:Int)+1):=bJ hk (by omega)
  congr 1
  funext r38
  rw [aL hcg,qCJ U (hd _ hrm) (h.exprs _ hrm),aA]
  cases r38.act with
  | c60=>
   dsimp only
   congr 1
   funext x
   obtain⟨a,d⟩:=x;dsimp only;rw [aL hcg,fH hvk.1 hvg,aB hg64]
  | c61 u=>
   dsimp only
   congr 1
   funext x
   obtain⟨a,d⟩:=x;dsimp only;rw [aL hcg,fH hvk.1 hvg,aB hg64]
 have hlk : (inV k I m.vars).length = m.vars.length := oO (by omega);have hgk:(inV k I m.vars)[k]?=some ((inV k I m.vars)[k]'(by omega)):=zQR (by omega);dsimp only;rw [if_pos (by omega),show ((k:Int)).toNat=k by omega,<- hsetin k (by omega)];by_cases hki:k < I.length
 ·rw [if_pos (by omega), aL (zQR hki), aL hgk, aB (by unfold I64; omega), zQD, zQR hki];rfl
 rw [if_neg (by omega), aL hgk, aB (by unfold I64; omega), zQD, List.getElem?_eq_none (by omega)];rfl
theorem qFE (p:Go.Proofs.YtciilodpnepdbaaDoor.Program) {r:Af} (hs:szE r.expr<=1000000000):iL p r=some (iG (p.names.length:Int) p.inputs r):=by
 unfold iL iG;rw [qAO _ hs,aA];by_cases h1:r.kind=1
 ·have h2 : ¬ r.kind = 2 := by omega
  by_cases hv:p.inputs<=r.var/\r.var < (p.names.length:Int)
  ·have hv1 : ¬ r.var < p.inputs := by omega
   have hv2:¬ (p.names.length:Int)<=r.var:=by omega
   by_cases hp:r.Ae=0<;>simp [h1,hv,hv1,hv2,hp]
  by_cases hv1:r.var < p.inputs
  ·simp [h1,hv1,Int.not_le.2 hv1]
  have hv2 : (p.names.length : Int) <= r.var := by omega
  simp [h1,hv2,Int.not_lt.2 hv2]
 by_cases h2:r.kind=2
 ·by_cases hv:p.inputs<=r.var/\r.var < (p.names.length:Int)
  ·have hv1 : ¬ r.var < p.inputs := by omega
   have hv2:¬ (p.names.length:Int)<=r.var:=by omega
   by_cases hp:r.Ae < 1\/1073741824 < r.Ae
   ·have hp2 : ¬ (1 <= r.Ae /\ r.Ae <= 1073741824) := by omega
    simp [h2,hv,hv1,hv2,hp,hp2]
   have hp2 : 1 <= r.Ae /\ r.Ae <= 1073741824 := by omega
   simp [h2,hv,hv1,hv2,hp,hp2]
  by_cases hv1:r.var < p.inputs
  ·simp [h2,hv1,Int.not_le.2 hv1]
  have hv2 : (p.names.length : Int) <= r.var := by omega
  simp [h2,hv2,Int.not_lt.2 hv2]
 simp [h1,h2]
structure Slim (p:Go.Proofs.YtciilodpnepdbaaDoor.Program):Prop where
 ok:POk p
 Ab:p.Ab.length<=2000000
 size:∀ r∈p.Ab,szE r.expr<=2000000
theorem pE {p:Go.Proofs.YtciilodpnepdbaaDoor.Program} (h:Slim p):eP p=some (bU p):=by
 have hr:=h.Ab;unfold eP bU;by_cases h1:2000 < p.names.length
 ·rw [if_pos (by omega),if_pos h1]
 rw [if_neg (by omega), if_neg h1];by_cases h2:p.inputs < 0\/(p.names.length:Int) < p.inputs
 ·rw [if_pos (by simpa using h2),if_pos h2]
 rw [if_neg (by simpa using h2), if_neg h2, dS p.Ab (fun r => !iG (p.names.length : Int) p.inputs r) (.inr 1) (.inl ()) (by omega) (fun i r hx => ?_) (by rw [if_neg (by omega)]; rfl)]
 ·rw [iA]
  cases ha:p.Ab.all (iG (p.names.length:Int) p.inputs) with
  | false=>rw [Bool.not_false,if_pos rfl,aZ,if_pos rfl]
  | true=>
   rw [Bool.not_true,if_neg Bool.false_ne_true,bN,if_neg (by simp)];rw [pI p.Ab.length (λi=>match p.Ab[i]? with|some r=>decide (r.var∈(p.Ab.map (·.var)).take i)|none=>false) (.inr 8) (.inl ()) (by omega) (λi hi=>?_) (by rw [if_neg (by omega)];rfl)]
   ·by_cases hd:(p.Ab.map (·.var)).Nodup
    ·rw [if_pos hd,if_neg ?_,bN];rw [zQU];rintro⟨i,hi,hc⟩;rw [List.mem_range] at hi;rw [zQR hi] at hc;exact nodup_take.1 hd i p.Ab[i].var (by simp [hi]) (of_decide_eq_true hc)
    rw [if_neg hd,if_pos ?_,aZ];rw [zQU];rw [nodup_take] at hd;simp only [Classical.not_forall,Classical.not_not] at hd;obtain⟨i,x,hx,hm⟩:=hd;have hi:=(zQQ.1 hx).1;rw [zQC] at hi;refine⟨i,List.mem_range.2 hi,?_⟩;rw [zQP,zQR hi] at hx;simp only [Option.map_some,Option.some.injEq] at hx;rw [zQR hi];subst hx;exact decide_eq_true hm
   have hx:=zQR hi;have hlen:(p.Ab.take i).length=i:=by rw [List.length_take];omega
   rw [if_pos (by omega),hx,dS (ρ:=Unit ⊕ (Int ⊕ (Unit ⊕ Int))) (p.Ab.take i) (λr=>decide (r.var=p.Ab[i].var)) (.inr (.inr (.inr 8))) (.inl ()) (by omega) (λk r hk=>?_) (by rw [hlen,if_neg (by omega)];rfl)]
   ·have he:((p.Ab.take i).any λr=>decide (r.var=p.Ab[i].var))=decide (p.Ab[i].var∈(p.Ab.map (·.var)).take i):=by
     rw [Bool.eq_iff_iff,zQU,decide_eq_true_eq,<- List.map_take,List.mem_map];exact⟨λ⟨x,h1,h2⟩=>⟨x,h1,of_decide_eq_true h2⟩,λ⟨x,h1,h2⟩=>⟨x,h1,decide_eq_true h2⟩⟩
    rw [he];dsimp only;by_cases hm:p.Ab[i].var∈(p.Ab.map (·.var)).take i
    ·rw [if_pos (decide_eq_true hm),if_pos (decide_eq_true hm),aZ]
    rw [if_neg (λh=>hm (of_decide_eq_true h)),if_neg (λh=>hm (of_decide_eq_true h)),bN,aB (bJ hi (by omega))]
   have hk2:=(zQQ.1 hk).1
   have hkr:p.Ab[k]?=some r:=by
    rw [List.getElem?_take] at hk;split at hk
    ·exact hk
    cases hk
   rw [if_pos (by omega),aL hkr,aL hx,aB (by unfold I64;omega)];by_cases hv:r.var=p.Ab[i].var
   ·rw [if_pos hv,decide_eq_true hv];rfl
   rw [if_neg hv,decide_eq_false hv];rfl
 have hi:=(zQQ.1 hx).1;rw [if_pos (by omega),aL hx,qFE p (by have:=h.size r (zQM hx);omega),aA,aB (bJ hi (by omega))];rfl
def byR (p:Go.Proofs.YtciilodpnepdbaaDoor.Program) (i:Nat) (r:Af):Ac:=if r.kind=2 then ⟨3,(p.names.length:Int)+i,[]⟩ else r.expr
def qDT (p:Go.Proofs.YtciilodpnepdbaaDoor.Program):Nat->Ac->Option Ac
 | 0,c=>some c
 | i+1,c=>match p.Ab[i]? with
  | none=>some c
  | some r=>if 20000 < szE c+qAG r.var c * (szE (byR p i r) - 1) then none else qDT p i (lK r.var (byR p i r) c)
theorem qDS {p:Go.Proofs.YtciilodpnepdbaaDoor.Program} {i:Nat} {r:Af} (hx:p.Ab[i]?=some r) (c:Ac):qDT p (i+1) c=if 20000 < szE c+qAG r.var c * (szE (byR p i r) - 1) then none else qDT p i (lK r.var (byR p i r) c):=by
 simp only [qDT,hx]
theorem qCR (r:Af):szE r.expr<=r.enc.bulk:=by
 have:=vD r.expr;rw [Ac.Ag] at this;simp only [Af.enc,Ac.enc,D.bulk,D.bulks] at *;omega
theorem rJ : ∀ l : List Af, (l.map fun r => szE r.expr).sum <= D.bulks (l.map Af.enc)
 | []=>by simp [D.bulks]
 | r :: l=>by
  have:=qCR r;have:=rJ l;simp only [List.map_cons,List.sum_cons,D.bulks];omega
theorem qCV {p:Go.Proofs.YtciilodpnepdbaaDoor.Program} {n:Nat} (h:p.enc.bulk<=n):(p.Ab.map λr=>szE r.expr).sum<=n/\p.Ab.length<=n/\p.names.length<=n:=by
 have h1:=rJ p.Ab;have h2:=D.length_le (p.Ab.map Af.enc);have h3:=D.length_le (p.names.map D.str);rw [zQC] at h2 h3;simp only [Go.Proofs.YtciilodpnepdbaaDoor.Program.enc,D.bulk,D.bulks] at h;omega
theorem qAW : ∀ {l : List Af} {r : Af}, r ∈ l -> szE r.expr <= (l.map fun r => szE r.expr).sum
 | x :: l,r,h=>by
  rw [List.map_cons,List.sum_cons];rcases zQB.1 h with rfl|h
  ·omega
  have:=qAW h;omega
theorem qCO {p:Go.Proofs.YtciilodpnepdbaaDoor.Program} (hw:Go.Proofs.YtciilodpnepdbaaDoor.Program.Wf p) (h:p.enc.bulk<=1048576):Slim p:=by
 obtain⟨h1,h2,h3⟩:=qCV h;refine⟨⟨by omega,by omega,λr hr=>uK (hw.Ab.2 r hr).expr⟩,by omega,λr hr=>?_⟩;have:=qAW hr;omega
theorem rU {p:Go.Proofs.YtciilodpnepdbaaDoor.Program} (h:Slim p) (m:Machine):iN p m=some (cR p m):=by
 have hr:=h.Ab;unfold iN cR;rw [pE h,aA];by_cases hh:bU p=0/\m.vars.length=p.names.length/\m.counts.length=p.Ab.length
 ·obtain⟨h1,h2,h3⟩:=hh;have hzl:(List.zip p.Ab m.counts).length=p.Ab.length:=by rw [List.length_zip];omega
  rw [if_pos h1,if_pos (by omega),aA,decide_eq_true (show (m.counts.length:Int)=(p.Ab.length:Int) by omega),if_neg (by simp),decide_eq_true ⟨h1,h2,h3⟩,Bool.true_and];rw [dS (List.zip p.Ab m.counts) (λx=>!qI x.1 x.2) (.inr false) (.inl ()) (by omega) (λi x hx=>?_) (by rw [if_neg (by omega)];rfl),iA]
  ·cases (List.zip p.Ab m.counts).all (λx=>qI x.1 x.2)<;>rfl
  have hi:=(zQQ.1 hx).1;obtain⟨r,c⟩:=x;rw [List.getElem?_zip_eq_some] at hx;obtain⟨hx1,hx2⟩:=hx;dsimp only at hx1 hx2 ⊢;rw [if_pos (by omega),aL hx2,aL hx2,aL hx1,aB (bJ hi (by omega))];unfold qI;by_cases hc:c < 0
  ·rw [if_pos hc, aA, if_pos rfl, if_pos (by rw [decide_eq_false (by omega)]; rfl)];rfl
  rw [if_neg hc,aA];by_cases hd:r.Ae < c
  ·rw [decide_eq_true hd,if_pos rfl,if_pos (by rw [decide_eq_false (by omega)];rfl)];rfl
  rw [decide_eq_false hd,if_neg (by simp),if_neg (by rw [decide_eq_true (by omega)];simp)]
 rw [decide_eq_false hh,Bool.false_and]
 have e1:(if bU p=(0:Int) then if (m.vars.length:Int)=(p.names.length:Int) then some (!(decide ((m.counts.length:Int)=(p.Ab.length:Int)))) else some true else some true)=some true:=by
  by_cases h1:bU p=0
  ·rw [if_pos h1];by_cases h2:m.vars.length=p.names.length
   ·rw [if_pos (by omega),decide_eq_false (by omega)];rfl
   rw [if_neg (by omega)]
  rw [if_neg h1]
 rw [e1,aA,if_pos rfl]
theorem qJZ (r : Af) (c : Int) (v : Bool) (h0 : 0 <= c) (h1 : c <= r.Ae) (hp : r.kind = 2 -> 1 <= r.Ae /\ r.Ae <= 1073741824) : (if r.kind = (2 : Int) then
       aC (
        if v = true then
         aD (I64 (c + (1 : Int))) <|
         some (min (c + (1 : Int)) r.Ae)
        else
         some (0 : Int)) fun n43 =>
       some (decide (n43 = r.Ae), n43)
      else
       some (v, c)) = some ((iX r v c).2, (iX r v c).1) := by
 unfold iX;by_cases h2:r.kind=2
 ·have hp:=hp h2;rw [if_pos h2,if_pos h2]
  cases v with
  | false=>rw [if_neg Bool.false_ne_true,if_neg Bool.false_ne_true,aA,decide_eq_false (by omega)]
  | true=>
   rw [if_pos rfl,if_pos rfl,aB (by unfold I64;omega),aA];by_cases hl:c < r.Ae
   ·rw [if_pos hl,Int.min_eq_left (by omega)]
   rw [if_neg hl,Int.min_eq_right (by omega),show r.Ae=c by omega]
 rw [if_neg h2,if_neg h2]
theorem rIn_eq {p : Go.Proofs.YtciilodpnepdbaaDoor.Program} {n : Nat} {I V : List Bool} (hn : p.inputs = (n : Int)) (hl : n <= V.length) (hv : V.length <= 1000000000) : bE (ρ := List Bool) (fun (i14, b15) =>
    if i14 < p.inputs then
     if i14 < (I.length : Int) then
      aW I i14 fun e21 =>
      aW b15 i14 fun e22 =>
      aD (I64 (i14 + (1 : Int))) <|
      some (.inl ((i14 + (1 : Int)), (b15.set i14.toNat e21)))
     else
      aW b15 i14 fun e19 =>
      aD (I64 (i14 + (1 : Int))) <|
      some (.inl ((i14 + (1 : Int)), (b15.set i14.toNat false)))
    else
     aH (
      some b15)) ((0 : Int), (([] : List Bool) ++ V)) = some (inV n I V) := by
 have hsetin (k:Nat) (hk:k < V.length):(inV k I V).set k (I.getD k false)=inV (k+1) I V:=by
  unfold inV;rw [List.set_append_right _ _ (by simp),List.range_succ,List.map_append];simp only [zQC,List.length_range,Nat.sub_self,List.map_cons,List.map_nil,List.append_assoc];rw [List.drop_eq_getElem_cons hk];rfl
 rw [hn,gS n (λk=>inV k I V) (o:=inV n I V) (by simp [inV]) (by omega) (λk hk=>?_) (by dsimp only;rw [if_neg (by omega)];rfl)];have hlk:(inV k I V).length=V.length:=oO (by omega);have hgk:(inV k I V)[k]?=some ((inV k I V)[k]'(by omega)):=zQR (by omega);dsimp only;rw [if_pos (by omega),show ((k:Int)).toNat=k by omega,<- hsetin k (by omega)];by_cases hki:k < I.length
 ·rw [if_pos (by omega), aL (zQR hki), aL hgk, aB (by unfold I64; omega), zQD, zQR hki];rfl
 rw [if_neg (by omega), aL hgk, aB (by unfold I64; omega), zQD, List.getElem?_eq_none (by omega)];rfl
theorem gU {p:Go.Proofs.YtciilodpnepdbaaDoor.Program} {m:Machine} (h:cR p m=true):bU p=0/\m.vars.length=p.names.length/\m.counts.length=p.Ab.length/\∀ x∈List.zip p.Ab m.counts,0<=x.2/\x.2<=x.1.Ae:=by
 unfold cR at h;simp only [zQA,decide_eq_true_eq,zQT] at h;obtain⟨⟨hz,hvl,hcl⟩,hcnt⟩:=h;refine⟨hz,hvl,hcl,λx hx=>?_⟩;have:=hcnt x hx;unfold qI at this;exact of_decide_eq_true this
theorem qFO {p:Go.Proofs.YtciilodpnepdbaaDoor.Program} (h:Slim p) {m:Machine} (I:List Bool) (hf:cR p m=true) (hh:m.halted=false):dL p m I=some ⟨fA (List.zip p.Ab m.counts) (inV p.inputs.toNat I m.vars),gG (List.zip p.Ab m.counts) (inV p.inputs.toNat I m.vars),false⟩:=by
 have hr:=h.Ab;obtain⟨hz,hvl,hcl,hcnt⟩:=gU hf;obtain⟨hn1,hn2,hn3,hn4,hn5⟩:=cJ hz;unfold dL;rw [rU h,aA,hf,if_neg (by simp),aA,hh,if_neg (by simp),aB (by simp;omega),aB (by simp;omega),rIn_eq (n:=p.inputs.toNat) (by omega) (by omega) (by omega),aA];have hV0:(inV p.inputs.toNat I m.vars).length=p.names.length:=by rw [oO (by omega),hvl]
 generalize inV p.inputs.toNat I m.vars=V0 at hV0;have hzl:(List.zip p.Ab m.counts).length=p.Ab.length:=by rw [List.length_zip];omega
 rw [gS p.Ab.length (λk=>(fA ((List.zip p.Ab m.counts).take k) V0,(gG (List.zip p.Ab m.counts) V0).take k++m.counts.drop k)) (o:=(fA (List.zip p.Ab m.counts) V0,gG (List.zip p.Ab m.counts) V0)) (by simp [fA]) (by omega) (λk hk=>?_) (by dsimp only;rw [if_neg (by omega),List.take_of_length_le (by omega),List.take_of_length_le (by rw [iT];omega),List.drop_of_length_le (by omega),List.append_nil];rfl),aA];have hrk:=zQR hk;obtain⟨c,hck⟩:∃ c,m.counts[k]?=some c:=⟨_,zQR (by omega)⟩;have hrm:=List.getElem_mem hk;have hrb:=hn4 _ hrm;have hrs:=h.size _ hrm;generalize p.Ab[k]=r at hrk hrm hrb hrs;have hzk:(List.zip p.Ab m.counts)[k]?=some (r,c):=List.getElem?_zip_eq_some.2 ⟨hrk,hck⟩;have hcb3:=hcnt _ (zQM hzk);unfold iG at hrb;simp only [zQA,Bool.or_eq_true,decide_eq_true_eq] at hrb;dsimp only at hcb3;have hVk:(fA ((List.zip p.Ab m.counts).take k) V0).length=p.names.length:=by rw [lI,hV0]
 have hcg:((gG (List.zip p.Ab m.counts) V0).take k++m.counts.drop k)[k]?=some c:=by
  rw [List.getElem?_append_right (by rw [List.length_take];omega),List.length_take,iT,hzl,show k - min k p.Ab.length=0 by omega,List.getElem?_drop];exact hck
 have hvk:0<=r.var/\r.var.toNat < p.names.length:=by omega
 have hnext:fA ((List.zip p.Ab m.counts).take (k+1)) V0=nV (fA ((List.zip p.Ab m.counts).take k) V0) (r,c):=by
  rw [List.take_add_one,hzk,rM];rfl
 have hcnx:(gG (List.zip p.Ab m.counts) V0)[k]?=some (iX r (evE (fA ((List.zip p.Ab m.counts).take k) V0) r.expr) c).1:=by
  unfold gG;rw [List.getElem?_mapIdx,hzk];rfl
 have hcset (x:Int) (hx:(gG (List.zip p.Ab m.counts) V0)[k]?=some x):((gG (List.zip p.Ab m.counts) V0).take k++m.counts.drop k).set k x=(gG (List.zip p.Ab m.counts) V0).take (k+1)++m.counts.drop (k+1):=by
  have hlt:((gG (List.zip p.Ab m.counts) V0).take k).length=k:=by rw [List.length_take,iT];omega
  rw [List.set_append_right _ _ (by omega),hlt,Nat.sub_self,List.take_add_one,hx,List.drop_eq_getElem_cons (by omega),List.set_cons_zero,List.append_assoc];rfl
 rw [hnext,<- hcset _ hcnx];unfold nV;dsimp only;rw [if_pos (by omega),aL hrk];generalize (gG (List.zip p.Ab m.counts) V0).take k++m.counts.drop k=T at hcg;generalize fA ((List.zip p.Ab m.counts).take k) V0=U at hVk;obtain⟨old,hvg⟩:∃ b,U[r.var.toNat]?=some b:=⟨_,zQR (by omega)⟩;rw [yW U (by omega),aA];have hact:=qJZ r c (evE U r.expr) hcb3.1 hcb3.2 (λh2=>by omega);have hg64:I64 ((k:Int)+1):=bJ hk (by omega);by_cases h2:r.kind=2
 ·rw [if_pos h2] at hact;rw [if_pos h2,aL hcg]
  cases hv:evE U r.expr with
  | false=>
   rw [hv,if_neg Bool.false_ne_true,aA] at hact;have h3:=Prod.mk.inj (Option.some.inj hact);rw [if_neg Bool.false_ne_true,aA,aL hcg,aA];dsimp only;rw [fH hvk.1 hvg,aB hg64,<- h3.1,<- h3.2];rfl
  | true=>
   have hg1:I64 (c+1):=by unfold I64;omega
   rw [hv,if_pos rfl,aB hg1,aA] at hact;have h3:=Prod.mk.inj (Option.some.inj hact);rw [if_pos rfl,aB hg1,aA,aL hcg,aA];dsimp only;rw [fH hvk.1 hvg,aB hg64,<- h3.1,<- h3.2];rfl
 rw [if_neg h2] at hact;have h3:=Prod.mk.inj (Option.some.inj hact);rw [if_neg h2,aA];dsimp only;rw [fH hvk.1 hvg,aB hg64,<- h3.1,<- h3.2]
 have hTs:T.set k c=T:=by
  apply List.ext_getElem?;intro j;rw [List.getElem?_set];split
  ·rename_i hj;subst hj;rw [if_pos (zQQ.1 hcg).1,hcg]
  rfl
 rw [hTs]
theorem qBV {n:Nat} {V:List Bool} (hV:V.length=n) (T:List Bool):∀ (k:Nat) (e:Ac),szE e<=k->cW (n:Int) e=true->evE (V++T) e=evE V e
 | 0,e,h,_=>by have:=vC e;omega
 | k+1,e,h,hg=>by
  have hse:=lB e;obtain⟨hf,hx⟩:=goodE_iff.1 hg;have ih:e.args.map (evE (V++T))=e.args.map (evE V):=List.map_congr_left λx hm=>qBV hV T k x (by have:=lR hm;omega) (hx x hm);rw [lY,lY,ih];unfold opB;by_cases h3:e.op=3
  ·rw [if_pos h3,if_pos h3];unfold eG at hf;rw [if_neg (by omega),if_pos h3,decide_eq_true_eq] at hf;rw [zQD,zQD,List.getElem?_append_left (by omega)]
  rw [if_neg h3,if_neg h3]
theorem qBU {V:List Bool} {x:Int} (h0:0<=x) (h1:x.toNat < V.length) (b:Ac):∀ (k:Nat) (e:Ac),szE e<=k->evE V (lK x b e)=evE (V.set x.toNat (evE V b)) e
 | 0,e,h=>by have:=vC e;omega
 | k+1,e,h=>by
  have hse:=lB e
  have ih:(e.args.map (lK x b)).map (evE V)=e.args.map (evE (V.set x.toNat (evE V b))):=by
   rw [List.map_map];exact List.map_congr_left λy hm=>qBU h0 h1 b k y (by have:=lR hm;omega)
  rw [qIM];by_cases hc:e.op=3/\e.var=x
  ·rw [if_pos hc,lY _ e];unfold opB;rw [if_pos hc.1,hc.2,decide_eq_true h0,Bool.true_and,zQD,List.getElem?_set_self h1];rfl
  rw [if_neg hc,lY,lY _ e];dsimp only;rw [ih];unfold opB;by_cases h3:e.op=3
  ·rw [if_pos h3,if_pos h3];have hne:e.var≠x:=λh=>hc ⟨h3,h⟩;by_cases hv:0<=e.var
   ·rw [zQD,zQD,List.getElem?_set_ne (by omega)]
   rw [decide_eq_false hv,Bool.false_and,Bool.false_and]
  rw [if_neg h3,if_neg h3]
theorem qJY {r:Af} {v:Bool} {c:Int} (h2:r.kind=2) (h0:0<=c) (h1:c<=r.Ae) (hp:1<=r.Ae):(iX r v c).2=decide ((iX r v c).1=r.Ae):=by
 unfold iX;rw [if_pos h2]
 cases v with
 | false=>rw [if_neg Bool.false_ne_true,decide_eq_false (by omega)]
 | true=>
  rw [if_pos rfl];split<;>rfl
def zD (l:List (Af×Int)) (V:List Bool):List Bool:=l.mapIdx λi x=>decide (x.1.kind=2)&&decide ((iX x.1 (evE (fA (l.take i) V) x.1.expr) x.2).1=x.1.Ae)
theorem qEP (l:List (Af×Int)) (V:List Bool):(zD l V).length=l.length:=by simp [zD]
theorem qID {l:List (Af×Int)} {V:List Bool} {i:Nat} {x:Af×Int} (h:l[i]?=some x):(zD l V)[i]?=some (decide (x.1.kind=2)&&decide ((iX x.1 (evE (fA (l.take i) V) x.1.expr) x.2).1=x.1.Ae)):=by
 unfold zD;rw [List.getElem?_mapIdx,h];rfl
theorem back {p:Go.Proofs.YtciilodpnepdbaaDoor.Program} {m:Machine} (hf:cR p m=true) {V:List Bool} (hV:V.length=p.names.length):∀ (i:Nat) (c e:Ac),i<=p.Ab.length->qDT p i c=some e->evE (V++zD (List.zip p.Ab m.counts) V) e=evE (fA ((List.zip p.Ab m.counts).take i) V++zD (List.zip p.Ab m.counts) V) c
 | 0,c,e,_,h=>by
  simp only [qDT,Option.some.injEq] at h;subst h;rfl
 | i+1,c,e,hi,h=>by
  obtain⟨hz,hvl,hcl,hcnt⟩:=gU hf;obtain⟨hn1,hn2,hn3,hn4,hn5⟩:=cJ hz;have hil:i < p.Ab.length:=by omega
  have hrk:=zQR hil;have hrm:=List.getElem_mem hil;rw [qDS hrk] at h;have hrb:=hn4 _ hrm;generalize p.Ab[i]=r at hrk hrm hrb h;obtain⟨k,hck⟩:∃ c,m.counts[i]?=some c:=⟨_,zQR (by omega)⟩;have hzk:(List.zip p.Ab m.counts)[i]?=some (r,k):=List.getElem?_zip_eq_some.2 ⟨hrk,hck⟩;have hcb:=hcnt _ (zQM hzk);have hzl:(List.zip p.Ab m.counts).length=p.Ab.length:=by rw [List.length_zip];omega
  have htl:=qEP (List.zip p.Ab m.counts) V;unfold iG at hrb;simp only [zQA,Bool.or_eq_true,decide_eq_true_eq] at hrb;dsimp only at hcb;split at h
  ·cases h
  have hnext:fA ((List.zip p.Ab m.counts).take (i+1)) V=nV (fA ((List.zip p.Ab m.counts).take i) V) (r,k):=by
   rw [List.take_add_one,hzk,rM];rfl
  have hta:=qID (V:=V) hzk;have hVk:(fA ((List.zip p.Ab m.counts).take i) V).length=p.names.length:=by rw [lI,hV]
  rw [back hf hV i _ _ (by omega) h,hnext];generalize fA ((List.zip p.Ab m.counts).take i) V=U at hVk hta;generalize zD (List.zip p.Ab m.counts) V=T at hta htl;dsimp only at hta
  have hval:evE (U++T) (byR p i r)=(iX r (evE U r.expr) k).2:=by
   unfold byR;by_cases h2:r.kind=2
   ·rw [if_pos h2,lY];unfold opB;dsimp only;rw [if_pos rfl,decide_eq_true (by omega),Bool.true_and,zQD,List.getElem?_append_right (by omega),show ((p.names.length:Int)+(i:Int)).toNat - U.length=i by omega,hta,qJY h2 hcb.1 hcb.2 (by omega),decide_eq_true h2,Bool.true_and];rfl
   rw [if_neg h2,qBV hVk T _ r.expr (zQW _) hrb.2.2.1];unfold iX;rw [if_neg h2]
  rw [qBU (by omega) (by rw [zQL];omega) _ _ c (zQW _),hval,List.set_append_left _ _ (by omega)];rfl
theorem qJX:gT=some true:=by decide+kernel
theorem qEE {r:Af} {v:Bool} {c:Int} (h:qI r c=true):qI r (iX r v c).1=true:=by
 have h1:=of_decide_eq_true h;unfold iX;split
 ·split
  ·split
   ·exact decide_eq_true (by omega)
   exact h
  exact decide_eq_true (by omega)
 exact h
theorem qHZ {r:Af} {v:Bool} {c k:Int} (h0:0<=c) (h:c<=k):(iX r v c).1<=k+1:=by
 unfold iX;split
 ·split
  ·split
   ·show c+1<=k+1;omega
   show c<=k+1;omega
  show (0:Int)<=k+1;omega
 show c<=k+1;omega
theorem rH {p:Go.Proofs.YtciilodpnepdbaaDoor.Program} {m:Machine} (I:List Bool) (hf:cR p m=true) (hh:m.halted=false):bZ p m I=⟨fA (List.zip p.Ab m.counts) (inV p.inputs.toNat I m.vars),gG (List.zip p.Ab m.counts) (inV p.inputs.toNat I m.vars),false⟩:=by
 unfold bZ;rw [if_neg (by rw [hf,hh];simp)]
theorem qHB {l:List (Af×Int)} {V:List Bool} {k:Nat} {c:Int} (h:(gG l V)[k]?=some c):∃ r c' v,l[k]?=some (r,c')/\c=(iX r v c').1:=by
 unfold gG at h;rw [List.getElem?_mapIdx] at h
 cases hz:l[k]? with
 | none=>rw [hz] at h;cases h
 | some y=>
  rw [hz] at h;exact⟨y.1,y.2,_,rfl,(Option.some.inj h).symm⟩
theorem lG {p:Go.Proofs.YtciilodpnepdbaaDoor.Program} {m:Machine} (I:List Bool) (hf:cR p m=true) (hh:m.halted=false):cR p (bZ p m I)=true/\(bZ p m I).halted=false:=by
 rw [rH I hf hh];refine⟨?_,rfl⟩;unfold cR at hf ⊢;simp only [zQA,decide_eq_true_eq] at hf;obtain⟨⟨hz,hvl,hcl⟩,hcnt⟩:=hf;obtain⟨hn1,hn2,hn3,hn4,hn5⟩:=cJ hz;dsimp only;have hzl:(List.zip p.Ab m.counts).length=p.Ab.length:=by rw [List.length_zip];omega
 rw [decide_eq_true ⟨hz,by rw [lI,oO (by omega),hvl],by rw [iT,hzl]⟩,Bool.true_and,zQT];rw [zQT] at hcnt;intro x hx;obtain⟨k,hk⟩:=List.getElem?_of_mem hx;obtain⟨r,c⟩:=x;rw [List.getElem?_zip_eq_some] at hk;obtain⟨hk1,hk2⟩:=hk;dsimp only at hk1 hk2 ⊢;obtain⟨r',c',v,h1,h2⟩:=qHB hk2;have hm:=hcnt _ (zQM h1);rw [List.getElem?_zip_eq_some] at h1;have h3:=h1.1;dsimp only at h3;rw [hk1] at h3;cases h3;subst h2;exact qEE hm
theorem qBA {p:Go.Proofs.YtciilodpnepdbaaDoor.Program} {m:Machine} (I:List Bool) (hf:cR p m=true) (hh:m.halted=false) {k:Int} (hk:∀ c∈m.counts,c<=k):∀ c∈(bZ p m I).counts,c<=k+1:=by
 rw [rH I hf hh];intro c hc;obtain⟨j,hj⟩:=List.getElem?_of_mem hc;obtain⟨r,c',v,h1,h2⟩:=qHB hj;obtain⟨hz,hvl,hcl,hcnt⟩:=gU hf;have h0:=hcnt _ (zQM h1);rw [List.getElem?_zip_eq_some] at h1;subst h2;exact qHZ h0.1 (hk _ (zQM h1.2))
theorem nW {p:Go.Proofs.YtciilodpnepdbaaDoor.Program} (h:bU p=0):cR p (bF p)=true/\(bF p).halted=false/\∀ c∈(bF p).counts,c=0:=by
 unfold bF;rw [if_pos h];refine⟨?_,rfl,λc hc=>List.eq_of_mem_replicate hc⟩;unfold cR;dsimp only;rw [decide_eq_true ⟨h,by simp,by simp⟩,Bool.true_and,zQT];intro x hx;obtain⟨r,c⟩:=x;have h1:=List.of_mem_zip hx;have h2:=List.eq_of_mem_replicate h1.2;subst h2;obtain⟨_,_,_,h4,_⟩:=cJ h;have h5:=h4 r h1.1;unfold iG at h5;simp only [zQA,Bool.or_eq_true,decide_eq_true_eq] at h5;dsimp only;unfold qI;exact decide_eq_true (by omega)
theorem qAE {p:Go.Proofs.YtciilodpnepdbaaDoor.Program} {m:Machine} (hf:cR p m=true):∀ c∈m.counts,0<=c:=by
 intro c hc;obtain⟨hz,hvl,hcl,hcnt⟩:=gU hf;obtain⟨j,hj⟩:=List.getElem?_of_mem hc;have hl:=(zQQ.1 hj).1;have hr:p.Ab[j]?=some p.Ab[j]:=zQR (by omega);exact (hcnt (p.Ab[j],c) (zQM (List.getElem?_zip_eq_some.2 ⟨hr,hj⟩))).1
def MOk (m:Machine):Prop:=m.vars.length<=1000000000/\m.counts.length<=1000000000
theorem qBP {p:Go.Proofs.YtciilodpnepdbaaDoor.Program} (h:Slim p) {m:Machine} (hf:cR p m=true):MOk m:=by
 obtain⟨hz,hvl,hcl,hcnt⟩:=gU hf;have:=cJ hz;have:=h.Ab;exact⟨by omega,by omega⟩
theorem Scan26 {p:Go.Proofs.YtciilodpnepdbaaDoor.Program} (h:Slim p) {m:Machine} (hm:MOk m) (I:List Bool):gQ p m I=some (bZ p m I):=
 qFU h.ok m I (λr hr=>by have:=oT r.expr;have:=h.size r hr;unfold aU;omega) hm.1 hm.2
theorem xR {p:Go.Proofs.YtciilodpnepdbaaDoor.Program} (h:Slim p):fM p=some (bF p):=by
 unfold fM bF;rw [pE h,aA];by_cases hz:bU p=0
 ·have:=cJ hz;have:=h.Ab;rw [if_pos hz,if_pos hz,aB (by omega),aB (by omega),show ((p.names.length:Int)).toNat=p.names.length by omega,show ((p.Ab.length:Int)).toNat=p.Ab.length by omega]
 rw [if_neg hz,if_neg hz]
theorem qBF {p:Go.Proofs.YtciilodpnepdbaaDoor.Program} (h:Slim p):iM p=some (qGR p):=by
 unfold iM;rw [xR h,aA];rfl
theorem qIP {p:Go.Proofs.YtciilodpnepdbaaDoor.Program} (h:Slim p) (m:Machine) (I:List Bool):dL p m I=some (bZ p m I):=by
 by_cases hf:cR p m=true
 ·cases hh:m.halted with
  | false=>rw [qFO h I hf hh,rH I hf hh]
  | true=>
   unfold dL bZ;rw [rU h,aA,hf];simp only [hh,Bool.not_true,if_true,if_false,aA,Bool.false_eq_true];rw [qBF h,aA,if_pos (.inl trivial)]
 have hf : cR p m = false := by simpa using hf
 unfold dL bZ;rw [rU h,aA,hf];simp only [Bool.not_false,if_true,aA];rw [qBF h,aA,if_pos (.inr trivial)]
theorem same02 {a b:List Int} (h:a.length<=iQ):gA a b=some (decide (a=b)):=by
 unfold iQ at h;unfold gA;by_cases hl:a.length=b.length
 ·rw [if_pos (by omega), pI a.length (fun i => decide (a[i]? ≠ b[i]?)) (.inr false) (.inl ()) h (fun i hi => ?_) (by rw [if_neg (by omega)]; rfl)]
  ·by_cases he:a=b
   ·subst he;rw [if_neg (by simp)];simp
   rw [if_pos ?_,decide_eq_false he]
   ·rfl
   rw [zQU];apply Classical.byContradiction;intro hc;apply he;apply List.ext_getElem?;intro i;by_cases hi:i < a.length
   ·apply Classical.byContradiction;intro hn;exact hc ⟨i,List.mem_range.2 hi,decide_eq_true hn⟩
   rw [List.getElem?_eq_none (by omega),List.getElem?_eq_none (by omega)]
  have ha:=zQR hi;have hb:=zQR (l:=b) (show i < b.length by omega);rw [if_pos (by omega),aL ha,aL hb,aB (bJ hi h)];rw [ha,hb];by_cases he:a[i]=b[i]
  ·rw [if_pos he,if_neg (by rw [he];simp)]
  rw [if_neg he, if_pos (by simpa using he)];rfl
 rw [if_neg (by omega),decide_eq_false (λhe=>hl (by rw [he]))]
theorem tX {α:Type} [DecidableEq α] {f:Int->Option (Int ⊕ (Unit ⊕ Bool))} (a b:List α) (hl:a.length=b.length) (h:a.length<=iQ) (hf:∀ (i:Nat) (hi:i < a.length),f (i:Int)=if a[i]=b[i]'(by omega) then some (.inl ((i:Int)+1)) else some (.inr (.inr false))) (he:f (a.length:Int)=some (.inr (.inl ()))):bE f 0=some (if a=b then .inl () else .inr false):=by
 unfold iQ at h;rw [pI a.length (λi=>decide (a[i]?≠b[i]?)) (.inr false) (.inl ()) h (λi hi=>?_) he]
 ·by_cases he:a=b
  ·subst he;rw [if_neg (by simp),if_pos rfl]
  rw [if_pos ?_,if_neg he];rw [zQU];apply Classical.byContradiction;intro hc;apply he;apply List.ext_getElem?;intro i;by_cases hi:i < a.length
  ·apply Classical.byContradiction;intro hn;exact hc ⟨i,List.mem_range.2 hi,decide_eq_true hn⟩
  rw [List.getElem?_eq_none (by omega),List.getElem?_eq_none (by omega)]
 have ha:=zQR hi;have hb:=zQR (l:=b) (show i < b.length by omega);rw [hf i hi,ha,hb];by_cases he:a[i]=b[i]'(by omega)
 ·rw [if_pos he,if_neg (by rw [he];simp)]
 rw [if_neg he,if_pos (by simpa using he)]
theorem same20 {a b:Machine} (h:MOk a):fY a b=some (decide (a=b)):=by
 obtain⟨av,ac,ah⟩:=a;obtain⟨bv,bc,bh⟩:=b;unfold MOk at h;dsimp only at h;unfold fY;dsimp only;by_cases hx:ah=bh/\av.length=bv.length/\ac.length=bc.length
 ·obtain⟨h1,h2,h3⟩:=hx;subst h1;rw [if_neg (by simp [h2,h3]),tX av bv h2 (by unfold iQ;omega) (λi hi=>?_) (by rw [if_neg (by omega)];rfl),tX ac bc h3 (by unfold iQ;omega) (λi hi=>?_) (by rw [if_neg (by omega)];rfl)]
  ·by_cases hv:av=bv
   ·subst hv;rw [if_pos rfl,bN];by_cases hc:ac=bc
    ·subst hc;rw [if_pos rfl,bN];simp
    rw [if_neg hc,aZ,decide_eq_false (λhe=>hc (by cases he;rfl))]
   rw [if_neg hv,aZ,decide_eq_false (λhe=>hv (by cases he;rfl))]
  ·have hb : i < bc.length := by omega
   rw [if_pos (by omega),aL (zQR hi),aL (zQR hb),aB (bJ hi (by omega))];rfl
  have hb : i < bv.length := by omega
  rw [if_pos (by omega),aL (zQR hi),aL (zQR hb),aB (bJ hi (by omega))];by_cases he:av[i]=bv[i]
  ·rw [if_pos he,he];simp
  rw [if_neg he,if_pos (by simpa using he)];rfl
 rw [if_pos ?_, decide_eq_false (fun he => hx (by cases he; exact ⟨rfl, rfl, rfl⟩))];apply Classical.byContradiction;intro hc;apply hx;simp only [Bool.or_eq_true,Bool.not_eq_true',decide_eq_false_iff_not,not_or,Classical.not_not] at hc;refine⟨by simpa using hc.1,by have:=hc.2.1;omega,by have:=hc.2.2;omega⟩
theorem uS:∀ (fu:Nat) (e:Ac) (left:Int),dpE e<=fu->okE e->0<=left->left<=1000000->∃ r,cV fu e left=some r/\1<=r/\r<=left+1
 | 0,e,left,h,_,_,_=>by rw [fL] at h;omega
 | fu+1,e,left,h,ho,h0,hm=>by
  rw [fL] at h;have hd:∀ x∈e.args,dpE x<=fu:=dpL_le.1 (by omega);obtain⟨hl,hox⟩:=okE_iff.1 ho;unfold cV
  obtain ⟨o, h1, h2⟩ := qS (f := fun ((n5 : Int), (i6 : Int)) =>
    if ((decide (i6 < (e.args.length : Int))) && (decide (n5 <= left))) = true then
     aW e.args i6 fun e10 =>
     aD (I64 (left - n5)) <|
     aC ((cV fu) e10 (left - n5)) fun r12 =>
     aD (I64 (n5 + r12)) <|
     aD (I64 (i6 + (1 : Int))) <|
     some (.inl ((n5 + r12), (i6 + (1 : Int))))
    else
     aH (
      some n5)) (s := ((1 : Int), (0 : Int))) (fun (o : Int) => 1 <= o /\ o <= left + 1) (fun i s => s.2 = (i : Int) /\ 1 <= s.1 /\ s.1 <= left + 1) e.args.length hl ⟨rfl, by omega, by omega⟩ (fun i hi s hI => by
    obtain ⟨n, k⟩ := s;obtain ⟨h1, h2, h3⟩ := hI;dsimp only at h1 h2 h3;subst h1;dsimp only;by_cases hn : n <= left
    ·left;have hm := List.getElem_mem hi;obtain ⟨r, hr1, hr2, hr3⟩ := uS fu e.args[i] (left - n) (hd _ hm) (hox _ hm) (by omega) (by omega);rw [if_pos (by rw [decide_eq_true (show (i : Int) < (e.args.length : Int) by omega), decide_eq_true hn]; rfl), aL (zQR hi), aB (by unfold I64; omega), hr1, aA, aB (by unfold I64; omega), aB (bJ hi hl)];exact ⟨_, rfl, by push_cast; rfl, by show 1 <= n + r; omega, by show n + r <= left + 1; omega⟩
    ·right;rw [if_neg (by rw [decide_eq_false hn, Bool.and_false]; exact Bool.false_ne_true)]
     exact ⟨_, rfl, h2, h3⟩) (fun s hI => by
    obtain ⟨n, k⟩ := s;obtain ⟨h1, h2, h3⟩ := hI;dsimp only at h1 h2 h3;subst h1;dsimp only;rw [if_neg (by rw [decide_eq_false (by omega), Bool.false_and]; exact Bool.false_ne_true)]
    exact ⟨_, rfl, h2, h3⟩)
  rw [h1,aA];exact⟨o,rfl,h2⟩
theorem few20 {p:Go.Proofs.YtciilodpnepdbaaDoor.Program} (h:Slim p):∃ b,jT p 20=some b:=by
 have hr:=h.Ab;unfold jT;split
 ·exact⟨_,rfl⟩
 obtain ⟨o, h1, h2⟩ := qS (f := fun (i5 : Int) =>
   if i5 < (p.Ab.length : Int) then
    aW p.Ab i5 fun e8 =>
    aC (jD e8.expr (200 : Int)) fun r9 =>
    if (200 : Int) < r9 then
     aH (
      aH (
       some false))
    else
     aD (I64 (i5 + (1 : Int))) <|
     some (.inl (i5 + (1 : Int)))
   else
    aH (
     some (.inl ()))) (s := (0 : Int)) (fun (o : Unit ⊕ Bool) => True) (fun i s => s = (i : Int)) p.Ab.length (by unfold iQ; omega) rfl (fun i hi s hI => by
   subst hI;have hm := List.getElem_mem hi;obtain ⟨r, hr1, _⟩ := uS aU p.Ab[i].expr 200 (by have := oT p.Ab[i].expr; have := h.size _ hm; unfold aU; omega) (h.ok.exprs _ hm) (by omega) (by omega);rw [if_pos (by omega), aL (zQR hi)];unfold jD;rw [hr1, aA];split
   ·exact .inr ⟨_, rfl, trivial⟩
   ·rw [aB (bJ hi (by omega))]
    exact .inl ⟨_, rfl, by push_cast; rfl⟩) (fun s hI => by
   subst hI;rw [if_neg (by omega)]
   exact ⟨_, rfl, trivial⟩)
 rw [h1]
 cases o with
 | inl u=>exact⟨_,rfl⟩
 | inr b=>exact⟨_,rfl⟩
structure Ok26 (p:Go.Proofs.YtciilodpnepdbaaDoor.Program) (l:List Aa) (I:List (List Bool)):Prop where
 slim:Slim p
 len:l.length<=iQ
 obs:∀ e∈l,okE e.expr/\szE e.expr<=1000000000
 inp:I.length<=iQ
theorem few26 {p:Go.Proofs.YtciilodpnepdbaaDoor.Program} {l:List Aa} {I:List (List Bool)} (h:Ok26 p l I):∃ b,jS p l I=some b:=by
 have hl:=h.len;have hI:=h.inp;unfold jS;obtain⟨b,hb⟩:=few20 h.slim;rw [hb,aA]
 have key : ∀ x : Bool, ∃ b', (if x = true then some false else
  cD (
   bE (fun i9 =>
    if i9 < (l.length : Int) then
     aW l i9 fun e12 =>
     aC (fZ e12.expr) fun r13 =>
     if (200 : Int) < r13 then
      aH (
       aH (
        some false))
     else
      aD (I64 (i9 + (1 : Int))) <|
      some (.inl (i9 + (1 : Int)))
    else
     aH (
      some (.inl ()))) (0 : Int)) fun _ =>
  cD (
   bE (fun i21 =>
    if i21 < (I.length : Int) then
     aW I i21 fun e24 =>
     if (40 : Int) < (e24.length : Int) then
      aH (
       aH (
        some false))
     else
      aD (I64 (i21 + (1 : Int))) <|
      some (.inl (i21 + (1 : Int)))
    else
     aH (
      some (.inl ()))) (0 : Int)) fun _ =>
  some true) = some b' := by
  intro x
  cases x with
  | true=>exact⟨_,rfl⟩
  | false=>
   rw [if_neg Bool.false_ne_true,dS l (λe=>decide ((200:Int) < (szE e.expr:Int))) (.inr false) (.inl ()) hl (λi e hx=>?_) (by rw [if_neg (by omega)];rfl),dS I (λe=>decide ((40:Int) < (e.length:Int))) (.inr false) (.inl ()) hI (λi e hx=>?_) (by rw [if_neg (by omega)];rfl)]
   ·split
    ·exact⟨_,rfl⟩
    rw [bN];split
    ·exact⟨_,rfl⟩
    exact⟨_,rfl⟩
   ·have hi:=(zQQ.1 hx).1;rw [if_pos (by omega),aL hx,aB (bJ hi hI)];by_cases hc:(40:Int) < (e.length:Int)
    ·rw [if_pos hc,if_pos (decide_eq_true hc)];rfl
    rw [if_neg hc,if_neg (by simpa using hc)]
   have hi:=(zQQ.1 hx).1;rw [if_pos (by omega),aL hx,qAY (h.obs e (zQM hx)).2,aA,aB (bJ hi hl)];by_cases hc:(200:Int) < (szE e.expr:Int)
   ·rw [if_pos hc,if_pos (decide_eq_true hc)];rfl
   rw [if_neg hc,if_neg (by simpa using hc)]
 cases b with
 | false=>rw [if_pos (by rfl),aA];exact key true
 | true=>
  rw [if_neg (by simp)];split
  ·rw [aA];exact key true
  rw [aA];exact key _
def bP (l:List Aa) (m:Machine):Bool:=l.any λe=>!(evE m.vars e.expr)
theorem oW {l:List Aa} (m:Machine) (hl:l.length<=iQ) (h:∀ e∈l,szE e.expr<=1000000000):bX l m=some (bP l m):=by
 unfold iQ at hl;unfold bX bP;rw [dS l (λe=>!(evE m.vars e.expr)) (.inr true) (.inl ()) hl (λi e hx=>?_) (by rw [if_neg (by omega)];rfl)]
 ·cases l.any fun e => !(evE m.vars e.expr)
  ·rw [if_neg (by simp)];rfl
  rw [if_pos rfl];rfl
 have hi:=(zQQ.1 hx).1;rw [if_pos (by omega),aL hx,yW m.vars (h e (zQM hx)),aA,aB (bJ hi hl)];rfl
theorem qAA (l:List Aa) (m:Machine):decide ((0:Int)<=vZ l m)=bP l m:=by
 unfold vZ bP;rw [Bool.eq_iff_iff,zQU,<- List.findIdx_lt_length];by_cases h:(l.findIdx λe=>!(evE m.vars e.expr)) < l.length
 ·rw [if_pos h];exact⟨λ_=>h,λ_=>decide_eq_true (by omega)⟩
 rw [if_neg h];exact⟨λh2=>absurd (of_decide_eq_true h2) (by decide),λh2=>absurd h2 h⟩
def qAX (p:Go.Proofs.YtciilodpnepdbaaDoor.Program) (I:List (List Bool)) (m:Machine) (i:Int):Machine:=if 0<=i/\i < (I.length:Int) then bZ p m (I.getD i.toNat []) else m
def rO (p:Go.Proofs.YtciilodpnepdbaaDoor.Program) (I:List (List Bool)) (t:List Int):Machine:=t.foldl (qAX p I) (bF p)
theorem uG (p:Go.Proofs.YtciilodpnepdbaaDoor.Program) (I:List (List Bool)) (t:List Int) (k:Int):rO p I (t++[k])=qAX p I (rO p I t) k:=by simp [rO,List.foldl_append]
theorem sW {a b:D} {l:List D} {n:Nat} (h:D.bulks (a :: l)<=n):a.bulk<=n/\D.bulks l<=n:=by simp only [D.bulks] at h;omega
theorem obs26 {l:List Aa} {k:Nat} (w:l.length<=reachBytes/\∀ y∈l,Aa.Wf y) (hb:(D.sl k (l.map Aa.enc)).bulk<=1048576):l.length<=iQ/\∀ e∈l,okE e.expr/\szE e.expr<=1000000000:=by
 refine⟨by have:=zY w.1;unfold iQ;omega,λe he=>⟨uK (w.2 e he).expr,?_⟩⟩;have h1:=qIU e;have h2:=D.part_le (List.mem_map_of_mem (f:=Aa.enc) he);simp only [D.bulk] at hb;omega
def kN (n:Int):List Int:=if n < 10 then [48+n] else [48+n / 10,48+n % 10]
theorem qCN:∀ n:Fin 100,(eA (n.val:Int)).map dC=some (kN (n.val:Int)):=by decide+kernel
theorem qEH:∀ n:Fin 100,IntKind.u64.wrap (n.val:Int)=(n.val:Int)/\IntKind.i64.wrap (n.val:Int)=(n.val:Int):=by decide+kernel
theorem qBX (n:Int):1<=(kN n).length/\(kN n).length<=2:=by
 unfold kN;split<;>simp
theorem qJV {p0:List Int} {n:Int} (h0:0<=n) (h1:n < 100) (hl:p0.length<=999999990):dE p0 n 10=some (p0++kN n):=by
 obtain⟨k,rfl⟩:∃ k:Nat,n=(k:Int):=⟨n.toNat,by omega⟩;have hs:=qCN ⟨k,by omega⟩;have hw:=qEH ⟨k,by omega⟩;dsimp only at hs hw;obtain⟨hu,hi⟩:=hw;unfold dE dQ dF;rw [if_neg (by omega),aA,hu,if_pos rfl,if_pos (by omega),hi]
 cases hr:eA (k:Int) with
 | none=>rw [hr] at hs;cases hs
 | some r=>
  rw [hr] at hs;have hb:dC r=kN (k:Int):=Option.some.inj hs;have hd:=qBX (k:Int);have hz:r.size=(kN (k:Int)).length:=by rw [<- hb,jL]
  rw [aA,hb,aB ⟨by omega,by rw [zQL];omega⟩];rfl
def vY (b:Bool):List Int:=if b=true then [116,114,117,101] else [102,97,108,115,101]
def qGM (m:Machine):List Int:=vY m.halted++(m.vars.map λv=>if v=true then (49:Int) else 48)++m.counts.flatMap λn=>32 :: kN n
def nO (m:Machine):BA:=strOfNums (qGM m)
theorem qBL : ∀ l : List Int, (l.flatMap fun n => 32 :: kN n).length <= 3 * l.length
 | []=>by simp
 | x :: r=>by
  have:=qBL r;have:=qBX x;rw [List.flatMap_cons,zQL,List.length_cons,List.length_cons];omega
structure MSm (m:Machine):Prop where
 vars:m.vars.length<=2000000
 counts:m.counts.length<=2000000
 cnt:∀ c∈m.counts,0<=c/\c < 100
theorem qHU {m:Machine} (h:MSm m):eT m=some (nO m):=by
 have hv:=h.vars;have hc:=h.counts;have hh:dV [] m.halted=some (vY m.halted):=by cases m.halted<;>decide+kernel
 have hk:(vY m.halted).length<=5:=by cases m.halted<;>simp [vY]
 unfold eT;rw [hh,aA];rw [gS m.vars.length (λi=>vY m.halted++((m.vars.take i).map λv=>if v=true then (49:Int) else 48)) (o:=vY m.halted++(m.vars.map λv=>if v=true then (49:Int) else 48)) (by simp) (by omega) (λi hi=>?_) (by dsimp only;rw [if_neg (by omega),List.take_length];rfl),aA]
 ·rw [gS m.counts.length (fun i => vY m.halted ++ (m.vars.map fun v => if v = true then (49 : Int) else 48) ++ ((m.counts.take i).flatMap fun n => 32 :: kN n)) (o := qGM m) (by simp) (by omega) (fun i hi => ?_) (by dsimp only; rw [if_neg (by omega), List.take_length]; rfl), aA]
  ·rfl
  have hx:=zQR hi;have hcc:=h.cnt _ (List.getElem_mem hi)
  have hl:((m.counts.take i).flatMap λn=>32 :: kN n).length<=6000000:=by
   have:=qBL (m.counts.take i);rw [List.length_take] at this;omega
  dsimp only;rw [if_pos (by omega),aL hx,aB (by simp only [zQL,zQC,List.length_cons,List.length_nil];omega),qJV hcc.1 hcc.2 (by simp only [zQL,zQC,List.length_cons,List.length_nil];omega),aA,aB (bJ hi (by omega)),List.take_add_one,hx,List.flatMap_append];simp
 have hx:=zQR hi;dsimp only
 have hg:∀ x:Int,(vY m.halted++((m.vars.take i).map λv=>if v=true then (49:Int) else 48)++[x]).length<=1000000000:=by
  intro x;simp only [zQL,zQC,List.length_take,List.length_cons,List.length_nil];omega
 rw [if_pos (by omega),aL hx,List.take_add_one,hx];by_cases hb:m.vars[i]=true
 ·rw [if_pos hb,aB (hg 49),aB (bJ hi (by omega))];simp [hb]
 rw [if_neg hb,aB (hg 48),aB (bJ hi (by omega))];simp [hb]
theorem xU : ∀ {a b : List Int}, (∀ x ∈ a, 0 <= x /\ x < 256) -> (∀ x ∈ b, 0 <= x /\ x < 256) -> (a.map fun n => UInt8.ofNat n.toNat) = (b.map fun n => UInt8.ofNat n.toNat) -> a = b
 | [],[],_,_,_=>rfl
 | [],y :: s,_,_,h=>by simp at h
 | x :: r,[],_,_,h=>by simp at h
 | x :: r,y :: s,ha,hb,h=>by
  rw [List.map_cons,List.map_cons] at h;obtain⟨h1,h2⟩:=List.cons.inj h;have h3:=congrArg UInt8.toNat h1;rw [UInt8.toNat_ofNat',UInt8.toNat_ofNat'] at h3;have hx:=ha x (by simp);have hy:=hb y (by simp);rw [Nat.mod_eq_of_lt (by omega),Nat.mod_eq_of_lt (by omega)] at h3;have:x=y:=by omega
  subst this;rw [xU (λz hz=>ha z (by simp [hz])) (λz hz=>hb z (by simp [hz])) h2]
theorem qDQ {n:Int} (h0:0<=n) (h1:n < 100):∀ x∈kN n,0<=x/\x < 256:=by
 unfold kN;split
 ·intro x hx;simp at hx;omega
 intro x hx;simp at hx;omega
theorem uM {m:Machine} (h:MSm m):∀ x∈qGM m,0<=x/\x < 256:=by
 intro x hx;unfold qGM at hx;simp only [zQN,List.mem_map,List.mem_flatMap,zQB] at hx;rcases hx with (hx|⟨v,_,rfl⟩)|⟨n,hn,rfl|hx⟩
 ·unfold vY at hx;split at hx<;>simp at hx<;>omega
 ·split<;>omega
 ·omega
 have:=h.cnt n hn;exact qDQ this.1 this.2 x hx
theorem qJK {a b:Int} (ha:0<=a) (hb:0<=b) {X Y:List Int} (hX:∀ x∈X.head?,x=32) (hY:∀ x∈Y.head?,x=32) (h:kN a++X=kN b++Y):a=b/\X=Y:=by
 unfold kN at h;by_cases h1:a < 10
 ·rw [if_pos h1] at h;by_cases h2:b < 10
  ·rw [if_pos h2] at h;simp only [List.cons_append,List.nil_append,List.cons.injEq] at h;exact⟨by omega,h.2⟩
  rw [if_neg h2] at h;simp only [List.cons_append,List.nil_append,List.cons.injEq] at h;have:=hX (48+b % 10) (by rw [h.2];simp);omega
 rw [if_neg h1] at h;by_cases h2:b < 10
 ·rw [if_pos h2] at h;simp only [List.cons_append,List.nil_append,List.cons.injEq] at h;have:=hY (48+a % 10) (by rw [<- h.2];simp);omega
 rw [if_neg h2] at h;simp only [List.cons_append,List.nil_append,List.cons.injEq] at h;exact⟨by omega,h.2.2⟩
theorem uO (l:List Int):∀ x∈(l.flatMap λn=>32 :: kN n).head?,x=32:=by
 cases l with
 | nil=>simp
 | cons a r=>rw [List.flatMap_cons];simp
theorem yP : ∀ {a b : List Int}, (∀ c ∈ a, 0 <= c) -> (∀ c ∈ b, 0 <= c) -> (a.flatMap fun n => 32 :: kN n) = (b.flatMap fun n => 32 :: kN n) -> a = b
 | [],[],_,_,_=>rfl
 | [],y :: s,_,_,h=>by rw [List.flatMap_cons] at h;simp at h
 | x :: r,[],_,_,h=>by rw [List.flatMap_cons] at h;simp at h
 | x :: r,y :: s,ha,hb,h=>by
  rw [List.flatMap_cons,List.flatMap_cons,List.cons_append,List.cons_append] at h;obtain⟨h1,h2⟩:=qJK (ha x (by simp)) (hb y (by simp)) (uO r) (uO s) (List.cons.inj h).2;subst h1;rw [yP (λz hz=>ha z (by simp [hz])) (λz hz=>hb z (by simp [hz])) h2]
theorem wQ : ∀ {a b : List Bool}, (a.map fun v => if v = true then (49 : Int) else 48) = (b.map fun v => if v = true then (49 : Int) else 48) -> a = b
 | [],[],_=>rfl
 | [],y :: s,h=>by simp at h
 | x :: r,[],h=>by simp at h
 | x :: r,y :: s,h=>by
  rw [List.map_cons,List.map_cons] at h;obtain⟨h1,h2⟩:=List.cons.inj h;rw [wQ h2];cases x<;>cases y<;>first|rfl|(exact absurd h1 (by decide))
theorem qJC {m m':Machine} (h:MSm m) (h':MSm m') (hh:m.halted=m'.halted) (hv:m.vars.length=m'.vars.length) (he:nO m=nO m'):m=m':=by
 unfold nO strOfNums at he;have h1:=List.toArray_inj (ByteArray.mk.inj he);have h2:=xU (uM h) (uM h') h1;unfold qGM at h2;rw [hh,List.append_assoc,List.append_assoc] at h2;have h3:=List.append_cancel_left h2;obtain⟨h4,h5⟩:=List.append_inj h3 (by simp [hv]);obtain⟨a,b,c⟩:=m;obtain⟨a',b',c'⟩:=m';dsimp only at hh h4 h5;have e5:b=b':=yP (λz hz=>(h.cnt z hz).1) (λz hz=>(h'.cnt z hz).1) h5;rw [hh,wQ h4,e5]
end Go.Proofs.YtciilodpnepdbaaDoor
