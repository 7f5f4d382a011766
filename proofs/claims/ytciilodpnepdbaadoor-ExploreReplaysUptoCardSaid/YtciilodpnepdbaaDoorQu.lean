/- Texts of this proof, joined, without what it does not use. No condition. -/
import Derived.Shelf.Slices.Reverse
import Derived.Test.YtciilodpnepdbaaDoorQt

set_option maxHeartbeats 8000000
set_option linter.unusedSimpArgs false
set_option linter.unusedVariables false
set_option maxRecDepth 20000
namespace Go.Proofs.YtciilodpnepdbaaDoor
open Go Go.TL Go.Sort Go.Shelf Go.RowKit Go.Lib Go.Proofs.Tryd
def wW:Go.Shelf.Ren:=⟨fun|112=>44|n=>n,fun|28=>30|3=>3|4=>4|0=>0|n=>n,fun|n=>n⟩
theorem qCH:Go.Proofs.Lays.n112 TP wW where
 mixed:=by kernel_rfl
 f112:=func44.trans (congrArg some (by kernel_rfl))
 t0:=Tryd.underlying0
 a0:=Tryd.isAgg0
 z0:=Tryd.sizeOf0
 v0:=Tryd.zeroValue0
 t3:=Tryd.underlying3
 a3:=Tryd.isAgg3
 z3:=Tryd.sizeOf3
 v3:=Tryd.zeroValue3
 t4:=Tryd.underlying4
 a4:=Tryd.isAgg4
 z4:=Tryd.sizeOf4
 v4:=Tryd.zeroValue4
 t28:=Tryd.underlying30
 a28:=Tryd.isAgg30
 z28:=Tryd.sizeOf30
 v28:=Tryd.zeroValue30
theorem kK (xs:List Int) (hlen:xs.length<=1000000000):Ret TP 44 [.flat 3 1 (xs.map (D.int .i64))] (λ_=>false) [.msl 0 1 0 xs.length] (.tup []) [.flat 3 1 ((wZ xs).map (D.int .i64))]:=
 qCI 3 (λ_=>false) xs (bB rfl) (by omega) (λp cap w=>Any.slices_Reverse_int_empty qCH p cap w) (λblk off cap zs w hH hl=>Any.slices_Reverse_int qCH blk off cap zs w hH hl)
end Go.Proofs.YtciilodpnepdbaaDoor
set_option maxHeartbeats 8000000
set_option linter.unusedSimpArgs false
set_option linter.unusedVariables false
set_option maxRecDepth 20000
namespace Go.Proofs.YtciilodpnepdbaaDoor
open Go Go.TL Go.Proofs.Tryd
theorem qB:∀ (fu:Nat) {p0:Ab} {p1:Int} {r:Int} (hm:cL fu p0 p1=some r),RetN TP 36 [p0.enc,.int .i64 p1] (.int .i64 r):=by
 intro fu
 induction fu with
 | zero=>
  intro p0 p1 r hm;unfold cL at hm;cases hm
 | succ fu ih=>
  intro p0 p1 r hm;refine .unit (aM (bB Q) func36 Q ntmps36 Q Q (λwX gX=>?_)) Q;unfold cL at hm;refine WN [0,1] Q Q (aQ 1 Q (cO 0 Q Q Q (aJ 7 Q (aZ hm (λn1=>([(5,.d (.int .i64 n1))])) (λn1=>[]) [5] [] Q (λz2 hm=>?_) (λn1 hm=>?_)))))
  ·refine bS 5 Q (bJ hm (λ(n5,i6)=>([(5,.d (.int .i64 n5)),(6,.d (.int .i64 i6))])) (λ(n5,i6)=>[]) [5,6] [1,2] [0] Q k0 Q Q Q Q Q (λs z7 hm hz7=>?_));obtain⟨n5,i6⟩:=s;refine WN [1,2,5,6] Q Q (bS 1 Q (iF [(16,.d (.bool (((decide (i6 < (p0.args.length:Int)))&&(decide (n5<=p1))))))] [16] [1,2,5,6] Q ?_ ?_))
   ·refine aQ 4 Q (SX Q Q (aO TK Q Q Q) (aG 1 Q (SB TK Q (λq8 hq8=>?_))));cases q8
    ·refine aE 5 Q ?_;exact⟨[0],Q,k0,bU (aV (aW (by first|(simp [hq8];done)|(simp only [hq8];simp))) Q) Q⟩
    refine aE 5 Q ?_;exact⟨[0],Q,k0,bU (aV (aW (by first|(simp [hq8];done)|(simp only [hq8];simp))) Q) Q⟩
   refine WN [1,2,5,6,16] Q Q (bR hm Q (λh9 hm=>?_) (λh9 hm=>?_))
   ·exact aN 9 Q (VE hm λe10 he10 hm=>SX Q Q (lZ TK Q Q Q Q he10 (Ab.Ag _)) (aG 3 Q (GE hm λg11 hm=>SX Q Q (bW Q Q Q Q g11) (c_N hm (ih ·) Q Q Q Q λr12 hm=>GE hm λg13 hm=>SX Q Q (bW Q Q Q Q g13) (aG 6 Q (GE hm λg14 hm=>SX Q Q (bW Q Q Q Q g14) (aE 2 Q (bT [0] hm Q Q))))))))
   refine aH 2 Q (IE hm λv15 hm hz=>?_);rw [hz7 _ hz] at hm;exact WX (bK 1 Q (bF [0] hm Q Q))
  exact WN [5] Q Q (aH 6 Q (aP hm Q))
theorem rM {p0:Ab} {p1:Int} {r:Int} (hm:iK p0 p1=some r):RetN TP 36 [p0.enc,.int .i64 p1] (.int .i64 r):=qB bA hm
theorem vG {p0:Program} {p1:Int} {r:Bool} (hm:iX p0 p1=some r):RetN TP 19 [p0.enc,.int .i64 p1] (.bool (r)):=by
 refine .unit (aM (bB Q) func19 Q ntmps19 Q Q (λwX gX=>?_)) Q;unfold iX at hm;refine WN [0,1] Q Q (aQ 1 Q (cO 0 Q Q Q (aJ 4 Q ?_)));refine iF [(16,.d (.bool (((decide (p1 < (p0.names.length:Int)))||(decide ((40:Int) < (p0.Aa.length:Int)))))))] [16] [2] Q ?_ ?_
 ·refine aQ 3 Q (SX Q Q (aO TK Q Q Q) (aG 2 Q (SB TK Q (λq1 hq1=>?_))));cases q1
  ·refine aG 2 Q (SX Q Q (aO TK Q Q Q) (aE 3 Q ?_));exact⟨[0],Q,k0,bU (aV (aW (by first|(simp [hq1];done)|(simp only [hq1];simp))) Q) Q⟩
  refine aE 6 Q ?_;exact⟨[0],Q,k0,bU (aV (aW (by first|(simp [hq1];done)|(simp only [hq1];simp))) Q) Q⟩
 refine WN [2,16] Q Q (bR hm Q (λh2 hm=>?_) (λh2 hm=>?_))
 ·exact aH 6 Q (aP hm Q)
 refine bD 2 Q (bN hm (λ_=>[]) (λ_=>[]) [] [] Q (λz3 hm hz3=>?_) (λj hm=>?_))
 ·refine bS 5 Q (bJ hm (λi5=>([(5,.d (.int .i64 i5))])) (λi5=>[]) [5] [2] [0] Q k0 Q Q Q Q Q (λi5 z6 hm hz6=>WN [2,5] Q Q (aQ 5 Q (SX Q Q (aO TK Q Q Q) (aJ 3 Q (bL hm Q (λh7 hm=>?_) (λh7 hm=>?_)))))))
  ·refine aN 8 Q (VE hm λe8 he8 hm=>SX Q Q (dH TK Q Q Q Q he8) (aG 2 Q (c_N hm (rM ·) Q Q Q Q λr9 hm=>aJ 3 Q (bL hm Q (λh10 hm=>?_) (λh10 hm=>?_)))))
   ·refine bD 4 Q (WN [4] Q Q (aH 3 Q (IE hm λv11 hm hz=>?_)));rw [hz6 _ hz] at hm;refine WR (bK 1 Q (IE hm λv12 hm hz=>?_));rw [hz3 _ hz] at hm;exact WR (aP hm Q)
   exact aN 5 Q (GE hm λg13 hm=>SX Q Q (bW Q Q Q Q g13) (aE 2 Q (bT [0] hm Q Q)))
  refine aH 2 Q (IE hm λv14 hm hz=>?_);rw [hz6 _ hz] at hm;exact WX (bK 1 Q (bT [0] hm Q Q))
 exact WN [] Q Q (aH 5 Q (aP hm Q))
theorem rP:∀ (fu:Nat) {p0:Ab} {r:Int} (hm:dG fu p0=some r),RetN TP 20 [p0.enc] (.int .i64 r):=by
 intro fu
 induction fu with
 | zero=>
  intro p0 r hm;unfold dG at hm;cases hm
 | succ fu ih=>
  intro p0 r hm;refine .unit (aM (bB Q) func20 Q ntmps20 Q Q (λwX gX=>?_)) Q;unfold dG at hm;refine WN [0] Q Q (aQ 1 Q (cO 0 Q Q Q (aJ 7 Q (aZ hm (λn1=>([(3,.d (.int .i64 n1))])) (λn1=>[]) [3] [] Q (λz2 hm=>?_) (λn1 hm=>?_)))))
  ·refine bS 5 Q (bJ hm (λ(n5,i6)=>([(3,.d (.int .i64 n5)),(4,.d (.int .i64 i6))])) (λ(n5,i6)=>[]) [3,4] [1] [0] Q k0 Q Q Q Q Q (λs z7 hm hz7=>?_));obtain⟨n5,i6⟩:=s;refine WN [1,3,4] Q Q (aQ 5 Q (SX Q Q (aO TK Q Q Q) (aJ 3 Q (bL hm Q (λh8 hm=>?_) (λh8 hm=>?_)))))
   ·exact aN 9 Q (VE hm λe9 he9 hm=>SX Q Q (lZ TK Q Q Q Q he9 (Ab.Ag _)) (aG 1 Q (c_N hm (ih ·) Q Q Q Q λr10 hm=>GE hm λg11 hm=>SX Q Q (bW Q Q Q Q g11) (aG 6 Q (GE hm λg12 hm=>SX Q Q (bW Q Q Q Q g12) (aE 2 Q (bT [0] hm Q Q)))))))
   refine aH 2 Q (IE hm λv13 hm hz=>?_);rw [hz7 _ hz] at hm;exact WX (bK 1 Q (bF [0] hm Q Q))
  exact WN [3] Q Q (aH 6 Q (aP hm Q))
theorem nF {p0:Ab} {r:Int} (hm:fK p0=some r):RetN TP 20 [p0.enc] (.int .i64 r):=rP bA hm
theorem vF {p0:Program} {p1:(List Ac)} {p2:(List (List Bool))} {r:Bool} (hm:iW p0 p1 p2=some r):RetN TP 8 [p0.enc,.sl 4 (p1.map Ac.enc),.sl 1 (p2.map (λ(l:List Bool)=>D.sl 1 (l.map D.bool)))] (.bool (r)):=by
 refine .unit (aM (bB Q) func8 Q ntmps8 Q Q (λwX gX=>?_)) Q;unfold iW at hm;refine WN [0,1,2] Q Q (aQ 1 Q (cO 0 Q Q Q (aJ 4 Q (aZ hm (λx1=>([(21,.d (.bool (x1)))])) (λx1=>[]) [21] [1,2] Q (λz2 hm=>?_) (λx1 hm=>?_)))))
 ·refine aQ 2 Q (c_N hm (vG ·) Q Q Q Q λr3 hm=>aG 1 Q (SB TK Q (λq4 hq4=>?_)));cases q4
  ·replace hm:=JB hq4 hm;refine aG 1 Q (SX Q Q (aO TK Q Q Q) (aG 2 Q (SB TK Q (λq5 hq5=>?_))));cases q5
   ·replace hm:=JF hq5 hm;exact aG 1 Q (SX Q Q (aO TK Q Q Q) (aE 3 Q (bF [0] hm Q Q)))
   replace hm:=JT hq5 hm;exact aE 5 Q (bF [0] hm Q Q)
  replace hm:=JA hq4 hm;exact aE 10 Q (bF [0] hm Q Q)
 refine WN [1,2,21] Q Q (bR hm Q (λh6 hm=>?_) (λh6 hm=>?_))
 ·exact aH 6 Q (aP hm Q)
 refine bD 2 Q (bN hm (λ_=>[]) (λ_=>[]) [] [2] Q (λz7 hm hz7=>?_) (λj hm=>?_))
 ·refine bS 5 Q (bJ hm (λi9=>([(7,.d (.int .i64 i9))])) (λi9=>[]) [7] [1,2] [0] Q k0 Q Q Q Q Q (λi9 z10 hm hz10=>WN [1,2,7] Q Q (aQ 4 Q (SX Q Q (aO TK Q Q Q) (aJ 3 Q (bL hm Q (λh11 hm=>?_) (λh11 hm=>?_)))))))
  ·refine aN 7 Q (VE hm λe12 he12 hm=>SX Q Q (dH TK Q Q Q Q he12) (aG 2 Q (c_N hm (nF ·) Q Q Q Q λr13 hm=>aJ 3 Q (bL hm Q (λh14 hm=>?_) (λh14 hm=>?_)))))
   ·refine aH 7 Q (IE hm λv15 hm hz=>?_);rw [hz10 _ hz] at hm;refine WR (bK 1 Q (IE hm λv16 hm hz=>?_));rw [hz7 _ hz] at hm;exact WR (aP hm Q)
   exact aN 5 Q (GE hm λg17 hm=>SX Q Q (bW Q Q Q Q g17) (aE 2 Q (bT [0] hm Q Q)))
  refine aH 2 Q (IE hm λv18 hm hz=>?_);rw [hz10 _ hz] at hm;exact WX (bK 1 Q (bT [0] hm Q Q))
 refine WN [2] Q Q (bN hm (λ_=>[]) (λ_=>[]) [] [] Q (λz19 hm hz19=>?_) (λj hm=>?_))
 ·refine bS 5 Q (bJ hm (λi21=>([(8,.d (.int .i64 i21))])) (λi21=>[]) [8] [2] [0] Q k0 Q Q Q Q Q (λi21 z22 hm hz22=>WN [2,8] Q Q (aQ 4 Q (SX Q Q (aO TK Q Q Q) (aJ 3 Q (bL hm Q (λh23 hm=>?_) (λh23 hm=>?_)))))))
  ·refine aN 7 Q (VE hm λe24 he24 hm=>SX Q Q (dH TK Q Q Q Q he24) (aG 1 Q (SX Q Q (aO TK Q Q Q) (aJ 3 Q (bL hm Q (λh25 hm=>?_) (λh25 hm=>?_))))))
   ·refine aH 7 Q (IE hm λv26 hm hz=>?_);rw [hz22 _ hz] at hm;refine WR (bK 1 Q (IE hm λv27 hm hz=>?_));rw [hz19 _ hz] at hm;exact WR (aP hm Q)
   exact aN 5 Q (GE hm λg28 hm=>SX Q Q (bW Q Q Q Q g28) (aE 2 Q (bT [0] hm Q Q)))
  refine aH 2 Q (IE hm λv29 hm hz=>?_);rw [hz22 _ hz] at hm;exact WX (bK 1 Q (bT [0] hm Q Q))
 exact WN [] Q Q (aH 5 Q (aP hm Q))
theorem dD {p0:Int} {r:Ab} (hm:cP p0=some r):RetD TP 22 [.int .i64 p0] (r.enc):=by
 refine .of (mv:=λ_=>false) (aM (bB Q) func22 Q ntmps22 Q Q (λwX gX=>?_));unfold cP at hm;refine WN [0] Q Q (aQ 1 Q (dF 0 Q Q mO Q (dC 0 [none,none,some 3] Q Q (aG 4 Q (SX Q Q (bZ Q qCR mO Q Q Q Q) (s_wk 4 [none,none,some 3] Q (aE 4 Q ?_)))))));obtain rfl:=OJ hm;exact EndsS.cellR _ TK Q Q Q Q Q (.d _)
theorem oN {p0:Ab} {r:Ab} (hm:lN p0=some r):RetD TP 21 [p0.enc] (r.enc):=by
 refine .of (mv:=λ_=>false) (aM (bB Q) func21 Q ntmps21 Q Q (λwX gX=>?_));unfold lN at hm;refine WN [0] Q Q (aQ 1 Q (cO 0 Q Q Q (dF 1 Q Q mO Q (dC 1 [none,none,some 3] Q Q (aG 4 Q (SX Q Q (qBJ (f:=Ab.Ak) (xs:=([p0]:List Ab)) [.tmp 3] TK Q Q mO Q (qDP Q (oG (Ab.Ag _) wH)) Q (sS Ab.Am) Q) (SX Q Q (bZ Q qCR mO Q Q Q Q) (aE 4 Q ?_))))))));obtain rfl:=OJ hm;exact EndsS.cellR _ TK Q Q Q Q Q (.d _)
theorem dK  {r:Program} (hm:dA=some r):RetD TP 23 [] (r.enc):=by
 refine .of (mv:=λ_=>false) (aM (bB Q) func23 Q ntmps23 Q Q (λwX gX=>?_));unfold dA at hm;refine WN [] Q Q (aQ 1 Q (dF 0 Q Q qBH Q (dC 0 [some 1,none,some 6] Q Q (aG 3 Q (SX Q Q (gK [.const (Value.string ⟨#[97]⟩),.const (Value.string ⟨#[98]⟩),.const (Value.string ⟨#[99]⟩)] TK Q Q zero9 Q Q Q Q Q) (c_D hm (dD ·) Q Q Q Q λr1 hm=>c_D hm (oN ·) Q Q Q Q λr2 hm=>SX Q Q (bZ Q qGH kH Q Q Q Q) (c_D hm (dD ·) Q Q Q Q λr3 hm=>SX Q Q (bZ Q qGH kH Q Q Q Q) (SX Q Q (gK [.tmp 4,.tmp 6] TK Q Q kH Q Q Q Q Q) (SX Q Q (bZ Q plc25 qBH Q Q Q Q) (aE 4 Q ?_))))))))));obtain rfl:=OJ hm;exact EndsS.cellR _ TK Q Q Q Q Q (.d _)
theorem rY:∀ (fu:Nat) {p0:Ab} {p1:Int} {p2:Int} {p3:Int} {r0:Bool} {r1:Int} (hm:cK fu p0 p1 p2 p3=some (r0,r1)),Ret TP 67 [.box 3 [.d (.int .i64 p3)]] (λ_=>false) [.d (.ptr (p0.enc) 0),.d (.int .i64 p1),.d (.int .i64 p2),.mptr 0 0 0 0] (.d (.bool (r0))) [.box 3 [.d (.int .i64 r1)]]:=by
 intro fu
 induction fu with
 | zero=>
  intro p0 p1 p2 p3 r0 r1 hm;unfold cK at hm;cases hm
 | succ fu ih=>
  intro p0 p1 p2 p3 r0 r1 hm;refine cE (bB Q) func67 Q ntmps67 Q Q (λwX gX=>?_);unfold cK at hm;refine WN [0,1,2,3] Q Q (bS 5 Q ?_);refine iF [(17,.d (.bool (((decide ((12:Int) < p2))||(decide (p3=(0:Int)))))))] [17] [0,1,2,3] Q ?_ ?_
  ·refine aQ 3 Q (SB TK Q (λq1 hq1=>?_));cases q1
   ·refine aE 6 Q ?_;exact⟨[0],Q,(kB Q),bU (aV (aW (by first|(simp [hq1];done)|(simp only [hq1];simp))) Q) Q⟩
   refine aE 6 Q ?_;exact⟨[0],Q,(kB Q),bU (aV (aW (by first|(simp [hq1];done)|(simp only [hq1];simp))) Q) Q⟩
  refine WN [0,1,2,3,17] Q Q (bR hm Q (λh2 hm=>?_) (λh2 hm=>?_))
  ·refine aH 6 Q ?_;obtain⟨rfl,rfl⟩:=Prod.mk.inj (Option.some.inj hm);exact⟨_,[0],res Q,by decide,(kB Q),Q,Q⟩
  refine aN 6 Q (GE hm λg3 hm=>SX Q Q (bW Q Q Q Q g3) (aJ 4 Q (bN hm (λ_=>[]) (λ_=>[]) [] [0,1,2,3] Q (λz4 hm hz4=>?_) (λj hm=>?_))))
  ·refine bS 8 Q (aZ hm (λx5=>([(27,.d (.bool (x5)))])) (λx5=>[]) [27] [0,1,2,3,26] Q (λz6 hm=>?_) (λx5 hm=>?_))
   ·refine bS 5 Q (bL hm Q (λh7 hm=>?_) (λh7 hm=>?_))
    ·exact aH 1 Q (e_j [0] hm Q (kB Q) Q)
    exact aH 4 Q (e_j [0] hm Q (kB Q) Q)
   refine WN [0,1,2,3,26,27] Q Q (bR hm Q (λh8 hm=>?_) (λh8 hm=>?_))
   ·refine iF [(8,.d (.bool (((decide (p0.var=(0:Int)))&&(decide ((p0.args.length:Int)=(0:Int)))))))] [8] [] Q ?_ ?_
    ·refine aQ 6 Q (SB TK Q (λq9 hq9=>?_));cases q9
     ·refine aE 9 Q ?_;exact⟨[0],Q,(kB Q),bU (aV (aW (by first|(simp [hq9];done)|(simp only [hq9];simp))) Q) Q⟩
     refine aG 4 Q (SX Q Q (aO TK Q Q Q) (aE 4 Q ?_));exact⟨[0],Q,(kB Q),bU (aV (aW (by first|(simp [hq9];done)|(simp only [hq9];simp))) Q) Q⟩
    refine WN [8] Q Q (aH 2 Q (IE hm λv10 hm hz=>?_));rw [hz4 _ hz] at hm;refine WR ?_;obtain⟨rfl,rfl⟩:=Prod.mk.inj (Option.some.inj hm);exact⟨_,[0],res Q,by decide,(kB Q),Q,Q⟩
   refine bD 5 Q (bL hm Q (λh11 hm=>?_) (λh11 hm=>?_))
   ·refine iF [(8,.d (.bool (((decide ((0:Int)<=p0.var))&&((decide (p0.var < p1))&&(decide ((p0.args.length:Int)=(0:Int))))))))] [8] [] Q ?_ ?_
    ·refine aQ 6 Q (SB TK Q (λq12 hq12=>?_));cases q12
     ·refine aE 17 Q ?_;exact⟨[0],Q,(kB Q),bU (aV (aW (by first|(simp [hq12];done)|(simp only [hq12];simp))) Q) Q⟩
     refine aG 7 Q (SB TK Q (λq13 hq13=>?_));cases q13
     ·refine aE 9 Q ?_;exact⟨[0],Q,(kB Q),bU (aV (aW (by first|(simp [hq12,hq13];done)|(simp only [hq12,hq13];simp))) Q) Q⟩
     refine aG 4 Q (SX Q Q (aO TK Q Q Q) (aE 4 Q ?_));exact⟨[0],Q,(kB Q),bU (aV (aW (by first|(simp [hq12,hq13];done)|(simp only [hq12,hq13];simp))) Q) Q⟩
    refine WN [8] Q Q (aH 2 Q (IE hm λv14 hm hz=>?_));rw [hz4 _ hz] at hm;refine WR ?_;obtain⟨rfl,rfl⟩:=Prod.mk.inj (Option.some.inj hm);exact⟨_,[0],res Q,by decide,(kB Q),Q,Q⟩
   refine bD 5 Q (bL hm Q (λh15 hm=>?_) (λh15 hm=>?_))
   ·refine aN 5 Q (SX Q Q (aO TK Q Q Q) (aJ 3 Q (iB hm Q (λh16 hm=>?_) (λh16 hm=>?_))))
    ·refine bD 4 Q (WN [8] Q Q (aH 2 Q (IE hm λv17 hm hz=>?_)));rw [hz4 _ hz] at hm;refine WR ?_;obtain⟨rfl,rfl⟩:=Prod.mk.inj (Option.some.inj hm);exact⟨_,[0],res Q,by decide,(kB Q),Q,Q⟩
    exact aH 2 Q (e_l [0] hm Q (kB Q) Q)
   refine bD 6 Q (bL hm Q (λh18 hm=>?_) (λh18 hm=>?_))
   ·exact bD 2 Q (yJ Q true h18 (aH 2 Q (e_l [0] hm Q (kB Q) Q)))
   refine bD 5 Q (bL hm Q (λh19 hm=>?_) (λh19 hm=>?_))
   ·exact aH 2 Q (e_l [0] hm Q (kB Q) Q)
   refine aH 6 Q (IE hm λv20 hm hz=>?_);rw [hz4 _ hz] at hm;refine WR ?_;obtain⟨rfl,rfl⟩:=Prod.mk.inj (Option.some.inj hm);exact⟨_,[0],res Q,by decide,(kB Q),Q,Q⟩
  refine WN [0,1,2,3] Q Q (bD 9 Q (iB hm Q (λh21 hm=>?_) (λh21 hm=>?_)))
  ·refine aH 6 Q ?_;obtain⟨rfl,rfl⟩:=Prod.mk.inj (Option.some.inj hm);exact⟨_,[0],res Q,by decide,(kB Q),Q,Q⟩
  refine bD 2 Q (bN hm (λc22=>[]) (λc22=>([(0,.box 3 [.d (.int .i64 c22)])])) [] [] Q (λz23 hm hz23=>?_) (λc22 hm=>?_))
  ·refine aQ 5 Q (SX Q Q (aO TK Q Q Q) (aJ 4 Q (bJ hm (λ(x27,c28)=>([(87,.d (.int .i64 x27))])) (λ(x27,c28)=>([(0,.box 3 [.d (.int .i64 c28)])])) [87] [0,1,2,3,86] [0] Q (kB Q) Q Q Q Q Q (λs z29 hm hz29=>?_))));obtain⟨x27,c28⟩:=s;refine WN [0,1,2,3,86,87] Q Q (bS 5 Q (bL hm Q (λh30 hm=>?_) (λh30 hm=>?_)))
   ·refine aN 15 Q (VE hm λe31 he31 hm=>SX Q Q (lZ TK Q Q Q Q he31 (Ab.Ag _)) (aG 2 Q (GE hm λg32 hm=>SX Q Q (bW Q Q Q Q g32) (aG 1 Q (BE hm λr33 hr33 hm=>?_)))));obtain⟨r34,r35⟩:=r33;refine eD [0] (λ_=>false) Q Q Q (by decide) Q Q Q Q (ih hr33) Q Q Q ?_;refine aJ 3 Q (bR hm Q (λh36 hm=>?_) (λh36 hm=>?_))
    ·refine bD 4 Q (WN [8] Q Q (aH 3 Q (IE hm λv37 hm hz=>?_)));rw [hz29 _ hz] at hm;refine WR (bK 1 Q (IE hm λv38 hm hz=>?_));rw [hz23 _ hz] at hm;refine WR ?_;obtain⟨rfl,rfl⟩:=Prod.mk.inj (Option.some.inj hm);exact⟨_,[0],res Q,by decide,(kB Q),Q,Q⟩
    exact bD 3 Q (WN [0,1,2,3,86,87] Q Q (aN 1 Q (GE hm λg39 hm=>SX Q Q (bW Q Q Q Q g39) (aE 2 Q (e_l [0] hm Q (kB Q) Q)))))
   refine aH 2 Q (IE hm λv40 hm hz=>?_);rw [hz29 _ hz] at hm;exact WX (bK 1 Q (e_l [0] hm Q (kB Q) Q))
  refine WN [] Q Q (aH 5 Q ?_);obtain⟨rfl,rfl⟩:=Prod.mk.inj (Option.some.inj hm);exact⟨_,[0],res Q,by decide,(kB Q),Q,Q⟩
theorem uG {p0:Ab} {p1:Int} {p2:Int} {p3:Int} {r0:Bool} {r1:Int} (hm:mV p0 p1 p2 p3=some (r0,r1)):Ret TP 67 [.box 3 [.d (.int .i64 p3)]] (λ_=>false) [.d (.ptr (p0.enc) 0),.d (.int .i64 p1),.d (.int .i64 p2),.mptr 0 0 0 0] (.d (.bool (r0))) [.box 3 [.d (.int .i64 r1)]]:=rY bA hm
theorem uI {p0:Ab} {p1:Int} {r:Bool} (hm:fN p0 p1=some r):RetN TP 62 [p0.enc,.int .i64 p1] (.bool (r)):=by
 refine .unit (aM (bB Q) func62 Q ntmps62 Q Q (λwX gX=>?_)) Q;unfold fN at hm;refine WN [0,1] Q Q (aQ 1 Q (cO 0 Q Q Q (aG 4 Q (dF 1 Q Q iS Q (aJ 3 Q (zP 0 Q Q Q Q Q (aN 2 Q (BE hm λr1 hr1 hm=>?_))))))));obtain⟨r2,r3⟩:=r1;refine eD [1] (λ_=>false) Q Q Q (by decide) Q Q Q Q (uG hr1) Q Q Q ?_;exact aE 4 Q (aP hm Q)
theorem oX {p0:Program} {p1:Af} {r:Bool} (hm:eN p0 p1=some r):RetN TP 55 [p0.enc,p1.enc] (.bool (r)):=by
 refine .unit (aM (bB Q) func55 Q ntmps55 Q Q (λwX gX=>?_)) Q;unfold eN at hm;refine WN [0,1] Q Q (aQ 1 Q (cO 0 Q Q Q (cO 1 Q Q Q (aJ 3 Q (bN hm (λ_=>[]) (λ_=>[]) [] [2,3] Q (λz1 hm hz1=>?_) (λj hm=>?_))))))
 ·refine bS 11 Q (bL hm Q (λh2 hm=>?_) (λh2 hm=>?_))
  ·refine bD 6 Q (iB hm Q (λh3 hm=>?_) (λh3 hm=>?_))
   ·refine aH 6 Q (IE hm λv4 hm hz=>?_);rw [hz1 _ hz] at hm;exact WR (aP hm Q)
   exact aH 2 Q (bT [0,1] hm Q Q)
  refine bD 5 Q (bL hm Q (λh5 hm=>?_) (λh5 hm=>?_))
  ·refine iF [(21,.d (.bool (((decide (p1.Ad < (1:Int)))||(decide ((1073741824:Int) < p1.Ad))))))] [21] [2,3] Q ?_ ?_
   ·refine aQ 4 Q (SB TK Q (λq6 hq6=>?_));cases q6
    ·refine aE 5 Q ?_;exact⟨[0,1],Q,k0,bU (aV (aW (by first|(simp [hq6];done)|(simp only [hq6];simp))) Q) Q⟩
    refine aE 5 Q ?_;exact⟨[0,1],Q,k0,bU (aV (aW (by first|(simp [hq6];done)|(simp only [hq6];simp))) Q) Q⟩
   refine WN [2,3,21] Q Q (bR hm Q (λh7 hm=>?_) (λh7 hm=>?_))
   ·refine aH 6 Q (IE hm λv8 hm hz=>?_);rw [hz1 _ hz] at hm;exact WR (aP hm Q)
   exact aH 2 Q (bT [0,1] hm Q Q)
  refine aH 6 Q (IE hm λv9 hm hz=>?_);rw [hz1 _ hz] at hm;exact WR (aP hm Q)
 refine WN [2,3] Q Q (aZ hm (λx10=>([(4,.d (.bool (x10)))])) (λx10=>[]) [4] [] Q (λz11 hm=>?_) (λx10 hm=>?_))
 ·refine aQ 6 Q (SB TK Q (λq12 hq12=>?_));cases q12
  ·replace hm:=JF hq12 hm;exact aE 17 Q (bF [0,1] hm Q Q)
  replace hm:=JT hq12 hm;refine aG 4 Q (SX Q Q (aO TK Q Q Q) (aG 2 Q (SB TK Q (λq13 hq13=>?_))));cases q13
  ·replace hm:=JF hq13 hm;exact aE 9 Q (bF [0,1] hm Q Q)
  replace hm:=JT hq13 hm;exact aG 4 Q (SX Q Q (aO TK Q Q Q) (c_N hm (uI ·) Q Q Q Q λr14 hm=>aE 3 Q (bF [0,1] hm Q Q)))
 exact WN [4] Q Q (aH 1 Q (aP hm Q))
theorem fX {p0:Program} {r:Int} (hm:fL p0=some r):RetN TP 37 [p0.enc] (.int .i64 r):=by
 refine .unit (aM (bB Q) func37 Q ntmps37 Q Q (λwX gX=>?_)) Q;unfold fL at hm;refine WN [0] Q Q (aQ 1 Q (cO 0 Q Q Q (aG 7 Q (SX Q Q (aO TK Q Q Q) (aJ 3 Q (bL hm Q (λh1 hm=>?_) (λh1 hm=>?_)))))))
 ·exact aH 6 Q (aP hm Q)
 refine bD 3 Q ?_;refine iF [(22,.d (.bool (((decide (p0.inputs < (0:Int)))||(decide ((p0.names.length:Int) < p0.inputs))))))] [22] [1] Q ?_ ?_
 ·refine aQ 4 Q (SB TK Q (λq2 hq2=>?_));cases q2
  ·refine aG 4 Q (SX Q Q (aO TK Q Q Q) (aE 3 Q ?_));exact⟨[0],Q,k0,bU (aV (aW (by first|(simp [hq2];done)|(simp only [hq2];simp))) Q) Q⟩
  refine aE 8 Q ?_;exact⟨[0],Q,k0,bU (aV (aW (by first|(simp [hq2];done)|(simp only [hq2];simp))) Q) Q⟩
 refine WN [1,22] Q Q (bR hm Q (λh3 hm=>?_) (λh3 hm=>?_))
 ·exact aH 6 Q (aP hm Q)
 refine bD 2 Q (bN hm (λ_=>[]) (λ_=>[]) [] [1] Q (λz4 hm hz4=>?_) (λj hm=>?_))
 ·refine aQ 3 Q (SX Q Q (aO TK Q Q Q) (aJ 4 Q (bJ hm (λx6=>([(26,.d (.int .i64 x6))])) (λx6=>[]) [26] [1,24,25] [0] Q k0 Q Q Q Q Q (λx6 z7 hm hz7=>WN [1,24,25,26] Q Q (bS 5 Q (bL hm Q (λh8 hm=>?_) (λh8 hm=>?_)))))))
  ·refine aN 5 Q (VE hm λe9 he9 hm=>SX Q Q (dH TK Q Q Q Q he9) (aG 1 Q (dF 1 Q Q kH Q (dC 1 [none,none,none,none,none,some 3] Q Q (aG 6 Q (c_N hm (oX ·) Q Q Q Q λr10 hm=>aJ 3 Q (bR hm Q (λh11 hm=>?_) (λh11 hm=>?_))))))))
   ·refine aH 7 Q (IE hm λv12 hm hz=>?_);rw [hz7 _ hz] at hm;refine WR (bK 1 Q (IE hm λv13 hm hz=>?_));rw [hz4 _ hz] at hm;exact WR (aP hm Q)
   exact aN 4 Q (GE hm λg14 hm=>SX Q Q (bW Q Q Q Q g14) (aE 2 Q (bT [0] hm Q Q)))
  refine aH 2 Q (IE hm λv15 hm hz=>?_);rw [hz7 _ hz] at hm;exact WX (bK 1 Q (bT [0] hm Q Q))
 refine WN [1] Q Q (aN 3 Q (SX Q Q (aO TK Q Q Q) (GE hm λg16 hm=>s_mkO (f:=D.bool) (x:=false) 1 TK Q Q Q iE Q Q Q Q Q g16 Q (aJ 3 Q (bN hm (λb17=>[]) (λb17=>([(1,.flat 4 1 (b17.map D.bool))])) [] [] Q (λz18 hm hz18=>?_) (λb17 hm=>?_))))))
 ·refine aQ 3 Q (SX Q Q (aO TK Q Q Q) (aJ 4 Q (bJ hm (λ(x22,b23)=>([(5,.msl 1 1 0 b23.length),(42,.d (.int .i64 x22))])) (λ(x22,b23)=>([(1,.flat 4 1 (b23.map D.bool))])) [5,42] [40,41] [0,1] Q k0 Q Q Q Q Q (λs z24 hm hz24=>?_))));obtain⟨x22,b23⟩:=s;refine WN [5,40,41,42] Q Q (bS 5 Q (bL hm Q (λh25 hm=>?_) (λh25 hm=>?_)))
  ·refine aN 5 Q (VE hm λe26 he26 hm=>SX Q Q (dH TK Q Q Q Q he26) (aG 1 Q (dF 2 Q Q kH Q (dC 2 [none,none,none,none,none,some 3] Q Q (aG 8 Q (VE hm λe27 he27 hm=>SX Q Q (eY TK Q Q Q Q he27 Q) (SX Q Q (mZ TK Q Q Q Q he27.2 Q) (aJ 2 Q (bR hm Q (λh28 hm=>?_) (λh28 hm=>?_))))))))))
   ·refine aH 8 Q (IE hm λv29 hm hz=>?_);rw [hz24 _ hz] at hm;refine WR (bK 1 Q (IE hm λv30 hm hz=>?_));rw [hz18 _ hz] at hm;exact WR (aP hm Q)
   exact aN 6 Q (VE hm λe31 he31 hm=>SX Q Q (eY TK Q Q Q Q he31 Q) (nC (x':=true) TK Q Q Q Q Q he31.2 Q Q Q (eH 5 (b23.set e26.var.toNat true).length Q List.length_set.symm (eH 51 (b23.set e26.var.toNat true).length Q List.length_set.symm (aG 4 Q (GE hm λg32 hm=>SX Q Q (bW Q Q Q Q g32) (aE 2 Q (bT [0,1] hm Q Q))))))))
  refine aH 2 Q (IE hm λv33 hm hz=>?_);rw [hz24 _ hz] at hm;exact WX (bK 1 Q (bT [0,1] hm Q Q))
 exact WN [] Q Q (aH 5 Q (aP hm Q))
theorem kA {p0:Program} {p1:(List (List Bool))} {p2:Int} {r:Int} (hm:dR p0 p1 p2=some (none,r)):Ret TP 24 [] (λ_=>false) ([p0.enc,.sl 1 (p1.map (λ(l:List Bool)=>D.sl 1 (l.map D.bool))),.int .i64 p2].map .d) (.tup [.d .nilptr,.d (.int .i64 r)]) []:=by
 refine cE (bB Q) func24 Q ntmps24 Q Q (λwX gX=>?_);unfold dR at hm;refine WN [0,1,2] Q Q (aQ 1 Q (cO 0 Q Q Q (aJ 5 Q (aZ hm (λx1=>([(23,.d (.bool (x1)))])) (λx1=>[]) [23] [1,2,3] Q (λz2 hm=>?_) (λx1 hm=>?_)))))
 ·refine aQ 2 Q (c_N hm (fX ·) Q Q Q Q λr3 hm=>aG 1 Q (SB TK Q (λq4 hq4=>?_)));cases q4
  ·replace hm:=lA hq4 hm;refine aG 1 Q (SX Q Q (aO TK Q Q Q) (aG 2 Q (SB TK Q (λq5 hq5=>?_))));cases q5
   ·replace hm:=JF hq5 hm;refine aG 3 Q (SB TK Q (λq6 hq6=>?_));cases q6
    ·replace hm:=JF hq6 hm;exact aE 4 Q (bF [0] hm Q Q)
    replace hm:=JT hq6 hm;exact aE 4 Q (bF [0] hm Q Q)
   replace hm:=JT hq5 hm;exact aE 8 Q (bF [0] hm Q Q)
  replace hm:=kZ hq4 hm;exact aE 13 Q (bF [0] hm Q Q)
 refine WN [1,2,3,23] Q Q (bR hm Q (λh7 hm=>?_) (λh7 hm=>?_))
 ·refine aH 7 Q ?_;cases hm;exact⟨_,[],res Q,by decide,k0,Q,Q⟩
 refine aN 6 Q (sD 9 4 Q (pT 27 (.mmap 1) Q Q (SX Q Q (hO Q qGI qBE Q Q Q Q) (cO 2 Q Q Q (aE 5 Q ?_)))));cases hm
theorem jZ {p0:Program} {p1:(List (List Bool))} {p2:Int} {q:Ah} {r:Int} (hm:dR p0 p1 p2=some (some q,r)):Ret TP 24 [] (λ_=>false) ([p0.enc,.sl 1 (p1.map (λ(l:List Bool)=>D.sl 1 (l.map D.bool))),.int .i64 p2].map .d) (.tup [.mptr 0 0 0 0,.d (.int .i64 r)]) [.box 70 [.d (.sl 1 (q.p.names.map D.str)),.d (.int .i64 q.p.inputs),.d (.sl 6 (q.p.Aa.map Af.enc)),.d (.sl 1 (q.inputs.map (λ(l:List Bool)=>D.sl 1 (l.map D.bool)))),.d (.int .i64 q.depth),.d .nilsl,.mmap 1],.map 9 4 (aT D.str D.bool q.seen)]:=by
 refine cE (bB Q) func24 Q ntmps24 Q Q (λwX gX=>?_);unfold dR at hm;refine WN [0,1,2] Q Q (aQ 1 Q (cO 0 Q Q Q (aJ 5 Q (aZ hm (λx1=>([(23,.d (.bool (x1)))])) (λx1=>[]) [23] [1,2,3] Q (λz2 hm=>?_) (λx1 hm=>?_)))))
 ·refine aQ 2 Q (c_N hm (fX ·) Q Q Q Q λr3 hm=>aG 1 Q (SB TK Q (λq4 hq4=>?_)));cases q4
  ·replace hm:=lA hq4 hm;refine aG 1 Q (SX Q Q (aO TK Q Q Q) (aG 2 Q (SB TK Q (λq5 hq5=>?_))));cases q5
   ·replace hm:=JF hq5 hm;refine aG 3 Q (SB TK Q (λq6 hq6=>?_));cases q6
    ·replace hm:=JF hq6 hm;exact aE 4 Q (bF [0] hm Q Q)
    replace hm:=JT hq6 hm;exact aE 4 Q (bF [0] hm Q Q)
   replace hm:=JT hq5 hm;exact aE 8 Q (bF [0] hm Q Q)
  replace hm:=kZ hq4 hm;exact aE 13 Q (bF [0] hm Q Q)
 refine WN [1,2,3,23] Q Q (bR hm Q (λh7 hm=>?_) (λh7 hm=>?_))
 ·refine aH 7 Q ?_;cases hm
 refine aN 6 Q (sD 9 4 Q (pT 27 (.mmap 1) Q Q (SX Q Q (hO Q qGI qBE Q Q Q Q) (cO 2 Q Q Q (aE 5 Q ?_)))));cases hm;exact⟨_,[2,1],res Q,by decide,k0,Q,Q⟩
theorem kS {p0:Program} {r:Machine} (hm:dP p0=some r):RetD TP 31 [p0.enc] (r.enc):=by
 refine .of (mv:=λ_=>false) (aM (bB Q) func31 Q ntmps31 Q Q (λwX gX=>?_));unfold dP at hm;refine WN [0] Q Q (aQ 1 Q (cO 0 Q Q Q (dF 1 Q Q bY Q (dC 1 [some 1,some 1,none] Q Q (aG 5 Q (c_N hm (fX ·) Q Q Q Q λr1 hm=>aJ 3 Q (iB hm Q (λh2 hm=>?_) (λh2 hm=>?_))))))))
 ·refine aN 1 Q (SX Q Q (bZ Q nM bY Q Q Q Q) (s_wk 6 [some 1,some 1,none] Q (aE 5 Q ?_)));obtain rfl:=OJ hm;exact EndsS.cellR _ TK Q Q Q Q Q (.d _)
 refine bD 2 Q (bM follows ?_);iterate 2 (refine DA [0,1] TK Q ?_)
 refine DX [0,1] Q Q (aO TK Q Q Q) (GE hm λg3 hm=>DX [0,1] Q Q (tD (f:=D.bool) (x:=false) TK Q Q iE Q Q Q Q Q g3 Q) ?_);iterate 2 (refine DA [0,1] TK Q ?_)
 refine DX [0,1] Q Q (aO TK Q Q Q) (GE hm λg4 hm=>DX [0,1] Q Q (tD (f:=(D.int .i64)) (x:=(0:Int)) TK Q Q iS Q Q Q Q Q g4 Q) (DX [0,1] Q Q (bZ Q nM bY Q Q Q Q) ?_));refine DT ?_ (by kernel_rfl);refine aE 4 Q ?_;obtain rfl:=OJ hm;exact EndsS.cellR _ TK Q Q Q Q Q (.d _)
theorem nA {p0:Int} {r:BA} (hm:gF p0=some r):RetN TP 71 [.int .i64 p0] (.str r):=by
 refine .unit (aM (bB Q) func71 Q ntmps71 Q Q (λwX gX=>?_)) Q;unfold gF at hm;refine WN [0] Q Q (bS 10 Q (bL hm Q (λh1 hm=>?_) (λh1 hm=>?_)))
 ·exact aN 3 Q (GE hm λg2 hm=>SX Q Q (bW Q Q Q Q g2) (GE hm λg3 hm=>SX Q Q (qBK Q Tryd.underlying9 Q Q Q g3) (aE 5 Q (aP hm Q))))
 exact aN 4 Q (GE hm λg4 hm=>SX Q Q (bW Q Q Q Q g4) (aG 1 Q (GE hm λg5 hm=>SX Q Q (bW Q Q Q Q g5) (GE hm λg6 hm=>SX Q Q (bW Q Q Q Q g6) (GE hm λg7 hm=>SX Q Q (qBK Q Tryd.underlying9 Q Q Q g7) (aE 4 Q (aP hm Q)))))))
theorem jJ {p0:(List Int)} {p1:Bool} {r:(List Int)} (hm:dT p0 p1=some r):Ret TP 63 [.flat 5 1 (p0.map (D.int .u8))] (λj=>Nat.beq j 0) [.msl 0 1 0 p0.length,.d (.bool (p1))] (.msl 0 1 0 r.length) [.flat 5 1 (r.map (D.int .u8))]:=by
 refine cE (bB Q) func63 Q ntmps63 Q Q (λwX gX=>?_);unfold dT at hm;refine WN [0,1] Q Q (aQ 1 Q (iO (f:=(D.int .u8)) 1 5 1 Q Q Q (aJ 7 Q (bR hm Q (λh1 hm=>?_) (λh1 hm=>?_)))))
 ·refine aN 2 Q (GE hm λg2 hm=>wT (xs:=p0) (⟨#[116,114,117,101]⟩:BA) TK Q Q Q mY Q Q Q Q Q (λ_=>Q) Q g2 Q Q (aE 5 Q ?_));obtain rfl:=OJ hm;exact⟨_,[0],res Q,by decide,(kB Q),Q,Q⟩
 refine aN 4 Q (GE hm λg3 hm=>wT (xs:=p0) (⟨#[102,97,108,115,101]⟩:BA) TK Q Q Q mY Q Q Q Q Q (λ_=>Q) Q g3 Q Q (aE 4 Q ?_));obtain rfl:=OJ hm;exact⟨_,[0],res Q,by decide,(kB Q),Q,Q⟩
theorem kJ {p0:(List Int)} {p1:Bool} {r:(List Int)} (hm:eS p0 p1=some r):Ret TP 56 [.flat 5 1 (p0.map (D.int .u8))] (λj=>Nat.beq j 0) [.msl 0 1 0 p0.length,.d (.bool (p1))] (.msl 0 1 0 r.length) [.flat 5 1 (r.map (D.int .u8))]:=by
 refine cE (bB Q) func56 Q ntmps56 Q Q (λwX gX=>?_);unfold eS at hm;refine WN [0,1] Q Q (aQ 1 Q (iO (f:=(D.int .u8)) 1 5 1 Q Q Q (aG 5 Q (BE hm λr1 hr1 hm=>?_))));refine eD [0] (λj=>Nat.beq j 0) Q Q Q (by decide) Q Q Q Q (jJ hr1) Q Q Q ?_;refine aE 4 Q ?_;obtain rfl:=OJ hm;exact⟨_,[0],res Q,by decide,(kB Q),Q,Q⟩
theorem jI {p0:(List Int)} {p1:Int} {p2:Int} {r:(List Int)} (hm:dS p0 p1 p2=some r):Ret TP 68 [.flat 5 1 (p0.map (D.int .u8))] (λj=>Nat.beq j 0) [.msl 0 1 0 p0.length,.d (.int .u64 p1),.d (.int .i64 p2)] (.msl 0 1 0 r.length) [.flat 5 1 (r.map (D.int .u8))]:=by
 refine cE (bB Q) func68 Q ntmps68 Q Q (λwX gX=>?_);unfold dS at hm;refine WN [0,1,2] Q Q (aQ 1 Q (iO (f:=(D.int .u8)) 1 5 1 Q Q Q (aJ 8 Q (bL hm Q (λh1 hm=>?_) (λh1 hm=>?_)))))
 ·refine bD 6 Q (bL hm Q (λh2 hm=>?_) (λh2 hm=>?_))
  ·refine aN 3 Q (SX Q Q (yG Q Tryd.underlying118 Tryd.underlying3 Q) (c_N hm (nA ·) Q Q Q Q λr3 hm=>GE hm λg4 hm=>wT (xs:=p0) r3 TK Q Q Q mY Q Q Q Q Q (λ_=>Q) Q g4 Q Q (aE 6 Q ?_)));obtain rfl:=OJ hm;exact⟨_,[0],res Q,by decide,(kB Q),Q,Q⟩
  cases hm
 cases hm
theorem kE {p0:(List Int)} {p1:Int} {p2:Int} {r:(List Int)} (hm:eJ p0 p1 p2=some r):Ret TP 64 [.flat 5 1 (p0.map (D.int .u8))] (λj=>Nat.beq j 0) [.msl 0 1 0 p0.length,.d (.int .i64 p1),.d (.int .i64 p2)] (.msl 0 1 0 r.length) [.flat 5 1 (r.map (D.int .u8))]:=by
 refine cE (bB Q) func64 Q ntmps64 Q Q (λwX gX=>?_);unfold eJ at hm;refine WN [0,1,2] Q Q (aQ 1 Q (iO (f:=(D.int .u8)) 1 5 1 Q Q Q (aG 4 Q (SX Q Q (yG Q Tryd.underlying2 Tryd.underlying118 Q) (aJ 3 Q (aZ hm (λ_=>([(0,.msl 0 1 0 p0.length),(7,.d (.int .u64 (IntKind.u64.wrap p1)))])) (λ_=>[]) [0,7] [2] Q (λz1 hm=>?_) (λj hm=>?_)))))))
 ·refine bS 5 Q (bL hm Q (λh2 hm=>?_) (λh2 hm=>?_))
  ·cases hm
  exact aH 1 Q (e_j [0,1] hm Q (kB Q) Q)
 refine WN [0,2,7] Q Q (aN 4 Q (BE hm λr3 hr3 hm=>?_));refine eD [0] (λj=>Nat.beq j 0) Q Q Q (by decide) Q Q Q Q (jI hr3) Q Q Q ?_;refine aE 4 Q ?_;obtain rfl:=OJ hm;exact⟨_,[0],res Q,by decide,(kB Q),Q,Q⟩
theorem lV {p0:(List Int)} {p1:Int} {p2:Int} {r:(List Int)} (hm:fB p0 p1 p2=some r):Ret TP 57 [.flat 5 1 (p0.map (D.int .u8))] (λj=>Nat.beq j 0) [.msl 0 1 0 p0.length,.d (.int .i64 p1),.d (.int .i64 p2)] (.msl 0 1 0 r.length) [.flat 5 1 (r.map (D.int .u8))]:=by
 refine cE (bB Q) func57 Q ntmps57 Q Q (λwX gX=>?_);unfold fB at hm;refine WN [0,1,2] Q Q (aQ 1 Q (iO (f:=(D.int .u8)) 1 5 1 Q Q Q (aG 6 Q (BE hm λr1 hr1 hm=>?_))));refine eD [0] (λj=>Nat.beq j 0) Q Q Q (by decide) Q Q Q Q (kE hr1) Q Q Q ?_;refine aE 4 Q ?_;obtain rfl:=OJ hm;exact⟨_,[0],res Q,by decide,(kB Q),Q,Q⟩
theorem iQ {p0:Machine} {r:BA} (hm:gA p0=some r):RetN TP 40 [p0.enc] (.str r):=by
 refine .unit (aM (bB Q) func40 Q ntmps40 Q Q (λwX gX=>?_)) Q;unfold gA at hm;refine WN [0] Q Q (aQ 1 Q (cO 0 Q Q Q (aG 6 Q (qEQ (f:=(D.int .u8)) 1 5 1 Q (BE hm λr1 hr1 hm=>?_)))));refine qCA [1] (λj=>Nat.beq j 0) Q Q Q (by decide) Q Q Q Q (kJ hr1) (.cons (.nil _ _) (.cons (.refl _) .nil)) Q Q Q ?_;refine aJ 3 Q (aZ hm (λb2=>([(3,.msl 1 1 0 b2.length)])) (λb2=>([(1,.flat 5 1 (b2.map (D.int .u8)))])) [3] [1] Q (λz3 hm=>?_) (λb2 hm=>?_))
 ·refine aQ 3 Q (SX Q Q (aO TK Q Q Q) (aJ 4 Q (bJ hm (λ(x7,b8)=>([(3,.msl 1 1 0 b8.length),(14,.d (.int .i64 x7))])) (λ(x7,b8)=>([(1,.flat 5 1 (b8.map (D.int .u8)))])) [3,14] [1,12,13] [0,1] Q k0 Q Q Q Q Q (λs z9 hm hz9=>?_))));obtain⟨x7,b8⟩:=s;refine WN [1,3,12,13,14] Q Q (bS 5 Q (bL hm Q (λh10 hm=>?_) (λh10 hm=>?_)))
  ·refine aN 5 Q (VE hm λe11 he11 hm=>SX Q Q (dH TK Q Q Q Q he11) (aJ 8 Q (bR hm Q (λh12 hm=>?_) (λh12 hm=>?_))))
   ·exact aN 2 Q (SX Q Q (gK [.const (Value.int IntKind.u8 49)] TK Q Q mY Q Q Q Q Q) (GE hm λg13 hm=>mD (f:=(D.int .u8)) ([(49:Int)]:List Int) TK Q Q mY Q Q Q Q Q (λh=>absurd h (zQV _)) Q mB g13 Q Q (aG 5 Q (GE hm λg14 hm=>SX Q Q (bW Q Q Q Q g14) (aE 2 Q (bT [0,1] hm Q Q))))))
   exact aN 2 Q (SX Q Q (gK [.const (Value.int IntKind.u8 48)] TK Q Q mY Q Q Q Q Q) (GE hm λg15 hm=>mD (f:=(D.int .u8)) ([(48:Int)]:List Int) TK Q Q mY Q Q Q Q Q (λh=>absurd h (zQV _)) Q mB g15 Q Q (aG 5 Q (GE hm λg16 hm=>SX Q Q (bW Q Q Q Q g16) (aE 2 Q (bT [0,1] hm Q Q))))))
  refine aH 2 Q (IE hm λv17 hm hz=>?_);rw [hz9 _ hz] at hm;exact WX (bK 1 Q (bF [0,1] hm Q Q))
 refine WN [1,3] Q Q (aZ hm (λb18=>([(3,.msl 1 1 0 b18.length)])) (λb18=>([(1,.flat 5 1 (b18.map (D.int .u8)))])) [3] [] Q (λz19 hm=>?_) (λb18 hm=>?_))
 ·refine aQ 3 Q (SX Q Q (aO TK Q Q Q) (aJ 4 Q (bJ hm (λ(x23,b24)=>([(3,.msl 1 1 0 b24.length),(29,.d (.int .i64 x23))])) (λ(x23,b24)=>([(1,.flat 5 1 (b24.map (D.int .u8)))])) [3,29] [27,28] [0,1] Q k0 Q Q Q Q Q (λs z25 hm hz25=>?_))));obtain⟨x23,b24⟩:=s;refine WN [3,27,28,29] Q Q (bS 5 Q (bL hm Q (λh26 hm=>?_) (λh26 hm=>?_)))
  ·refine aN 5 Q (VE hm λe27 he27 hm=>SX Q Q (dH TK Q Q Q Q he27) (aG 6 Q (SX Q Q (gK [.const (Value.int IntKind.u8 32)] TK Q Q mY Q Q Q Q Q) (GE hm λg28 hm=>mD (f:=(D.int .u8)) ([(32:Int)]:List Int) TK Q Q mY Q Q Q Q Q (λh=>absurd h (zQV _)) Q mB g28 Q Q (aG 6 Q (BE hm λr29 hr29 hm=>?_))))));refine eD [1] (λj=>Nat.beq j 0) Q Q Q (by decide) Q Q Q Q (lV hr29) Q Q Q ?_;exact aG 5 Q (GE hm λg30 hm=>SX Q Q (bW Q Q Q Q g30) (aE 2 Q (bT [0,1] hm Q Q)))
  refine aH 2 Q (IE hm λv31 hm hz=>?_);rw [hz25 _ hz] at hm;exact WX (bK 1 Q (bF [0,1] hm Q Q))
 refine WN [3] Q Q ?_;refine qDX 3 1 [] Q Q Q Q Q (by simp) Q Q ?_;exact aN 2 Q (SX Q Q (x_bstr (xs:=b18) Q Tryd.underlying102 Tryd.underlying5 Tryd.underlying9 Q) (aE 4 Q (aP hm Q)))
theorem xI {p0:Program} {p1:Machine} {r:Bool} (hm:iY p0 p1=some r):RetN TP 48 [p0.enc,p1.enc] (.bool (r)):=by
 refine .unit (aM (bB Q) func48 Q ntmps48 Q Q (λwX gX=>?_)) Q;unfold iY at hm;refine WN [0,1] Q Q (aQ 1 Q (cO 0 Q Q Q (cO 1 Q Q Q (aJ 4 Q (aZ hm (λx1=>([(27,.d (.bool (x1)))])) (λx1=>[]) [27] [2,3] Q (λz2 hm=>?_) (λx1 hm=>?_))))))
 ·refine aQ 2 Q (c_N hm (fX ·) Q Q Q Q λr3 hm=>aG 1 Q (SB TK Q (λq4 hq4=>?_)));cases q4
  ·replace hm:=lA hq4 hm;refine aG 2 Q (SX Q Q (aO TK Q Q Q) (aG 2 Q (SX Q Q (aO TK Q Q Q) (aG 2 Q (SB TK Q (λq5 hq5=>?_))))));cases q5
   ·replace hm:=lA hq5 hm;exact aG 2 Q (SX Q Q (aO TK Q Q Q) (aG 2 Q (SX Q Q (aO TK Q Q Q) (aE 3 Q (bF [0,1] hm Q Q)))))
   replace hm:=kZ hq5 hm;exact aE 9 Q (bF [0,1] hm Q Q)
  replace hm:=kZ hq4 hm;exact aE 18 Q (bF [0,1] hm Q Q)
 refine WN [2,3,27] Q Q (bR hm Q (λh6 hm=>?_) (λh6 hm=>?_))
 ·exact aH 6 Q (aP hm Q)
 refine bD 2 Q (bN hm (λ_=>[]) (λ_=>[]) [] [] Q (λz7 hm hz7=>?_) (λj hm=>?_))
 ·refine aQ 3 Q (SX Q Q (aO TK Q Q Q) (aJ 4 Q (bJ hm (λx9=>([(31,.d (.int .i64 x9))])) (λx9=>[]) [31] [3,29,30] [0,1] Q k0 Q Q Q Q Q (λx9 z10 hm hz10=>WN [3,29,30,31] Q Q (bS 5 Q (bL hm Q (λh11 hm=>?_) (λh11 hm=>?_)))))))
  ·refine aN 6 Q (VE hm λe12 he12 hm=>SX Q Q (dH TK Q Q Q Q he12) (aG 1 Q (dF 2 Q Q kH Q (dC 2 [none,none,none,none,none,some 3] Q Q (aJ 4 Q (aZ hm (λx13=>([(51,.d (.bool (x13)))])) (λx13=>[]) [51] [3,29,30,31] Q (λz14 hm=>?_) (λx13 hm=>?_)))))))
   ·refine nX follows ?_;iterate 3 (refine DA [0,1,2] TK Q ?_)
    refine VE hm λe15 he15 hm=>DX [0,1,2] Q Q (dH TK Q Q Q Q he15) ?_;iterate 2 (refine DA [0,1,2] TK Q ?_)
    refine d_b [0,1,2] TK Q (λq16 hq16=>?_);cases q16
    ·replace hm:=JF hq16 hm;iterate 3 (refine DA [0,1,2] TK Q ?_)
     refine VE hm λe17 he17 hm=>DX [0,1,2] Q Q (dH TK Q Q Q Q he17) ?_;iterate 5 (refine DA [0,1,2] TK Q ?_)
     refine DT ?_ (by kernel_rfl);exact aE 1 Q (bF [0,1,2] hm Q Q)
    replace hm:=JT hq16 hm;iterate 9 (refine DA [0,1,2] TK Q ?_)
    refine DT ?_ (by kernel_rfl);exact aE 1 Q (bF [0,1,2] hm Q Q)
   refine WN [3,29,30,31,51] Q Q (bR hm Q (λh18 hm=>?_) (λh18 hm=>?_))
   ·refine aH 7 Q (IE hm λv19 hm hz=>?_);rw [hz10 _ hz] at hm;refine WR (bK 1 Q (IE hm λv20 hm hz=>?_));rw [hz7 _ hz] at hm;exact WR (aP hm Q)
   exact aN 4 Q (GE hm λg21 hm=>SX Q Q (bW Q Q Q Q g21) (aE 2 Q (bT [0,1] hm Q Q)))
  refine aH 2 Q (IE hm λv22 hm hz=>?_);rw [hz10 _ hz] at hm;exact WX (bK 1 Q (bT [0,1] hm Q Q))
 exact WN [] Q Q (aH 5 Q (aP hm Q))
theorem nK {p0:Int} {p1:Bool} {r0:Int} {r1:Bool} (hm:dJ p0 p1=some (r0,r1)):Ret TP 60 [] (λ_=>false) ([.int .i64 p0,.bool (p1)].map .d) (.tup ([.int .i64 r0,.bool (r1)].map .d)) []:=by
 refine sI (bB Q) func60 Q ntmps60 Q Q (λwX gX=>?_);unfold dJ at hm;refine WN [0,1] Q Q (r_px 13 Q ?_);obtain⟨rfl,rfl⟩:=Prod.mk.inj (Option.some.inj hm);exact EndsT.two Q (.d _) (.refl _) (.d _) (.refl _)
theorem nL {p0:Int} {p1:Bool} {r0:Int} {r1:Bool} (hm:dJ p0 p1=some (r0,r1)):RetT TP 60 [.int .i64 p0,.bool (p1)] [.int .i64 r0,.bool (r1)]:=.of (mv:=λ_=>false) (nK hm)
theorem nI {p0:Int} {p1:Bool} {p2:Af} {r0:Int} {r1:Bool} (hm:cS p0 p1 p2=some (r0,r1)):Ret TP 61 [] (λ_=>false) ([.int .i64 p0,.bool (p1),.ptr (p2.enc) 0].map .d) (.tup ([.int .i64 r0,.bool (r1)].map .d)) []:=by
 refine sI (bB Q) func61 Q ntmps61 Q Q (λwX gX=>?_);unfold cS at hm;refine WN [0,1,2] Q Q (bS 11 Q (bR hm Q (λh1 hm=>?_) (λh1 hm=>?_)))
 ·refine aH 7 Q ?_;obtain⟨rfl,rfl⟩:=Prod.mk.inj (Option.some.inj hm);exact EndsT.two Q (.d _) (.refl _) (.d _) (.refl _)
 refine bD 10 Q (bL hm Q (λh2 hm=>?_) (λh2 hm=>?_))
 ·refine aN 2 Q (GE hm λg3 hm=>SX Q Q (bW Q Q Q Q g3) (aJ 3 Q (bM follows ?_)));iterate 6 (refine DA [] TK Q ?_)
  refine DT ?_ (by kernel_rfl);refine aJ 3 Q (WN [5,6] Q Q (aH 1 Q ?_));obtain⟨rfl,rfl⟩:=Prod.mk.inj (Option.some.inj hm);exact EndsT.two Q (.d _) (.refl _) (.d _) (.refl _)
 refine bD 2 Q (bM follows ?_);iterate 6 (refine DA [] TK Q ?_)
 refine DT ?_ (by kernel_rfl);refine aJ 3 Q (WN [5,6] Q Q (aH 1 Q ?_));obtain⟨rfl,rfl⟩:=Prod.mk.inj (Option.some.inj hm);exact EndsT.two Q (.d _) (.refl _) (.d _) (.refl _)
theorem nJ {p0:Int} {p1:Bool} {p2:Af} {r0:Int} {r1:Bool} (hm:cS p0 p1 p2=some (r0,r1)):RetT TP 61 [.int .i64 p0,.bool (p1),.ptr (p2.enc) 0] [.int .i64 r0,.bool (r1)]:=.of (mv:=λ_=>false) (nI hm)
theorem qG {p0:Af} {r:Al} (hm:fE p0=some r):RetD TP 52 [p0.enc] (r.enc):=by
 refine .of (mv:=λ_=>false) (aM (bB Q) func52 Q ntmps52 Q Q (λwX gX=>?_));unfold fE at hm;refine WN [0] Q Q (aQ 1 Q (cO 0 Q Q Q (dF 1 Q Q wM Q (aJ 9 Q (iB hm Q (λh1 hm=>?_) (λh1 hm=>?_))))))
 ·refine aN 1 Q (SX Q Q (bZ Q qGG wM Q Q Q Q) (aE 5 Q ?_));obtain rfl:=OJ hm;exact EndsS.cellR _ TK Q Q Q Q Q (.d _)
 refine bD 2 Q (zP 0 Q Q Q Q Q (aN 2 Q (SX Q Q (bZ Q qGG wM Q Q Q Q) (aE 4 Q ?_))));obtain rfl:=OJ hm;exact EndsS.cellR _ TK Q Q Q Q Q (.d _)
theorem rZ {p0:Ab} {r:Aj} (hm:fZ p0=some r):RetD TP 65 [.ptr (p0.enc) 0] (r.enc):=by
 refine .of (mv:=λ_=>false) (aM (bB Q) func65 Q ntmps65 Q Q (λwX gX=>?_));unfold fZ at hm;refine WN [0] Q Q (bS 18 Q (bL hm Q (λh1 hm=>?_) (λh1 hm=>?_)))
 ·exact aN 2 Q (SX Q Q (bZ Q plc112 tC Q Q Q Q) (aE 7 Q (aP hm Q)))
 refine bD 5 Q (bL hm Q (λh2 hm=>?_) (λh2 hm=>?_))
 ·refine aN 5 Q (SX Q Q (aO TK Q Q Q) (aJ 3 Q (bL hm Q (λh3 hm=>?_) (λh3 hm=>?_))))
  ·exact aN 2 Q (SX Q Q (bZ Q plc113 tB Q Q Q Q) (aJ 4 Q (WN [2] Q Q (aH 3 Q (aP hm Q)))))
  exact bD 3 Q (WN [0] Q Q (aN 2 Q (SX Q Q (bZ Q qCS yE Q Q Q Q) (aE 5 Q (aP hm Q)))))
 refine bD 5 Q (bL hm Q (λh4 hm=>?_) (λh4 hm=>?_))
 ·exact aN 2 Q (SX Q Q (bZ Q plc114 tA Q Q Q Q) (aJ 4 Q (WN [2] Q Q (aH 3 Q (aP hm Q)))))
 refine bD 5 Q (bL hm Q (λh5 hm=>?_) (λh5 hm=>?_))
 ·exact aN 2 Q (SX Q Q (bZ Q plc115 sZ Q Q Q Q) (aJ 4 Q (WN [2] Q Q (aH 3 Q (aP hm Q)))))
 exact aN 5 Q (SX Q Q (bZ Q qCS yE Q Q Q Q) (aJ 4 Q (WN [2] Q Q (aH 1 Q (aP hm Q)))))
theorem uH:∀ (fu:Nat) {p0:Ab} {p1:(List Bool)} {r:Bool} (hm:cN fu p0 p1=some r),RetN TP 58 [.ptr (p0.enc) 0,.sl 1 (p1.map D.bool)] (.bool (r)):=by
 intro fu
 induction fu with
 | zero=>
  intro p0 p1 r hm;unfold cN at hm;cases hm
 | succ fu ih=>
  intro p0 p1 r hm;refine .unit (aM (bB Q) func58 Q ntmps58 Q Q (λwX gX=>?_)) Q;unfold cN at hm;refine WN [0,1] Q Q (bS 4 Q (bN hm (λ_=>[]) (λ_=>[]) [] [0] Q (λz1 hm hz1=>?_) (λj hm=>?_)))
  ·refine aQ 2 Q (c_D hm (rZ ·) Q Q Q Q λr2 hm=>aG 4 Q ?_);by_cases h3:r2.tid=112
   ·rw [if_pos h3] at hm;refine SX Q Q (yH Q zM Q h3) (aJ 4 Q ?_);refine TC true Q (λ_=>?_) (λh=>by cases h);refine aN 1 Q (dF 0 Q Q tC Q (aJ 3 Q (aZ hm (λx4=>([(4,.d (.bool (x4)))])) (λx4=>[]) [4] [] Q (λz5 hm=>?_) (λx4 hm=>?_))))
    ·refine aQ 7 Q (SB TK Q (λq6 hq6=>?_));cases q6
     ·replace hm:=JF hq6 hm;exact aE 21 Q (bF [0] hm Q Q)
     replace hm:=JT hq6 hm;refine aG 6 Q (SX Q Q (aO TK Q Q Q) (aG 2 Q (SB TK Q (λq7 hq7=>?_))));cases q7
     ·replace hm:=JF hq7 hm;exact aE 11 Q (bF [0] hm Q Q)
     replace hm:=JT hq7 hm;exact aG 6 Q (VE hm λe8 he8 hm=>SX Q Q (dH TK Q Q Q Q he8) (aE 4 Q (bF [0] hm Q Q)))
    refine WN [4] Q Q (aH 2 Q (IE hm λv9 hm hz=>?_));rw [hz1 _ hz] at hm;exact WR (aP hm Q)
   rw [if_neg h3] at hm;refine SX Q Q (yI Q zM Q h3 tC Q) (aJ 4 Q (TC false Q (λh=>by cases h) (λ_=>aN 1 Q ?_)));by_cases h10:r2.tid=113
   ·rw [if_pos h10] at hm;refine SX Q Q (yH Q zL Q h10) (aJ 4 Q ?_);refine TC true Q (λ_=>?_) (λh=>by cases h);refine aN 1 Q (dF 0 Q Q tB Q (aG 9 Q (VE hm λe11 he11 hm=>SX Q Q (lZ TK Q Q Q Q he11 (Ab.Ag _)) (aG 1 Q (c_N hm (ih ·) Q Q Q Q λr12 hm=>aJ 4 Q (WN [4] Q Q (aH 2 Q (IE hm λv13 hm hz=>?_))))))));rw [hz1 _ hz] at hm;exact WR (aP hm Q)
   rw [if_neg h10] at hm;refine SX Q Q (yI Q zL Q h10 tB Q) (aJ 4 Q (TC false Q (λh=>by cases h) (λ_=>aN 1 Q ?_)));by_cases h14:r2.tid=114
   ·rw [if_pos h14] at hm;refine SX Q Q (yH Q zK Q h14) (aJ 4 Q ?_);refine TC true Q (λ_=>?_) (λh=>by cases h);refine aN 1 Q (dF 0 Q Q tA Q (aJ 3 Q (bN hm (λ_=>[]) (λ_=>[]) [] [] Q (λz15 hm hz15=>?_) (λj hm=>?_))))
    ·refine aQ 6 Q (SX Q Q (aO TK Q Q Q) (aJ 3 Q (WN [1,7,62,63] Q Q (bD 1 Q (bJ hm (λx17=>([(63,.d (.int .i64 x17))])) (λx17=>[]) [63] [1,7,62] [0] Q k0 Q Q Q Q Q (λx17 z18 hm hz18=>WN [1,7,62,63] Q Q (bS 5 Q (bL hm Q (λh19 hm=>?_) (λh19 hm=>?_)))))))))
     ·refine aN 16 Q (VE hm λe20 he20 hm=>SX Q Q (lZ TK Q Q Q Q he20 (Ab.Ag _)) (aG 1 Q (c_N hm (ih ·) Q Q Q Q λr21 hm=>aJ 3 Q (bR hm Q (λh22 hm=>?_) (λh22 hm=>?_)))))
      ·refine bD 4 Q (WN [4] Q Q (aH 3 Q (IE hm λv23 hm hz=>?_)));rw [hz18 _ hz] at hm;refine WR (bK 1 Q (IE hm λv24 hm hz=>?_));rw [hz15 _ hz] at hm;refine WR (bK 1 Q (IE hm λv25 hm hz=>?_));rw [hz1 _ hz] at hm;exact WR (aP hm Q)
      exact aN 4 Q (GE hm λg26 hm=>SX Q Q (bW Q Q Q Q g26) (aE 2 Q (bT [0] hm Q Q)))
     refine aH 2 Q (IE hm λv27 hm hz=>?_);rw [hz18 _ hz] at hm;exact WX (bK 1 Q (bT [0] hm Q Q))
    refine WN [] Q Q (aH 6 Q (IE hm λv28 hm hz=>?_));rw [hz1 _ hz] at hm;exact WR (aP hm Q)
   rw [if_neg h14] at hm;refine SX Q Q (yI Q zK Q h14 tA Q) (aJ 4 Q (TC false Q (λh=>by cases h) (λ_=>aN 1 Q ?_)));by_cases h29:r2.tid=115
   ·rw [if_pos h29] at hm;refine SX Q Q (yH Q zJ Q h29) (aJ 4 Q ?_);refine TC true Q (λ_=>?_) (λh=>by cases h);refine aN 1 Q (dF 0 Q Q sZ Q (aJ 3 Q (WN [1,9] Q Q (bN hm (λ_=>[]) (λ_=>[]) [] [] Q (λz30 hm hz30=>?_) (λj hm=>?_)))))
    ·refine aQ 6 Q (SX Q Q (aO TK Q Q Q) (aJ 4 Q (bJ hm (λx32=>([(86,.d (.int .i64 x32))])) (λx32=>[]) [86] [1,9,85] [0] Q k0 Q Q Q Q Q (λx32 z33 hm hz33=>WN [1,9,85,86] Q Q (bS 5 Q (bL hm Q (λh34 hm=>?_) (λh34 hm=>?_)))))))
     ·refine aN 16 Q (VE hm λe35 he35 hm=>SX Q Q (lZ TK Q Q Q Q he35 (Ab.Ag _)) (aG 1 Q (c_N hm (ih ·) Q Q Q Q λr36 hm=>aJ 2 Q (bR hm Q (λh37 hm=>?_) (λh37 hm=>?_)))))
      ·refine bD 4 Q (WN [4] Q Q (aH 3 Q (IE hm λv38 hm hz=>?_)));rw [hz33 _ hz] at hm;refine WR (bK 1 Q (IE hm λv39 hm hz=>?_));rw [hz30 _ hz] at hm;refine WR (bK 1 Q (IE hm λv40 hm hz=>?_));rw [hz1 _ hz] at hm;exact WR (aP hm Q)
      exact aN 4 Q (GE hm λg41 hm=>SX Q Q (bW Q Q Q Q g41) (aE 2 Q (bT [0] hm Q Q)))
     refine aH 2 Q (IE hm λv42 hm hz=>?_);rw [hz33 _ hz] at hm;exact WX (bK 1 Q (bT [0] hm Q Q))
    refine WN [] Q Q (aH 6 Q (IE hm λv43 hm hz=>?_));rw [hz1 _ hz] at hm;exact WR (aP hm Q)
   rw [if_neg h29] at hm;exact SX Q Q (yI Q zJ Q h29 sZ Q) (aJ 4 Q (TC false Q (λh=>by cases h) (λ_=>aH 2 Q (bT [] hm Q Q))))
  exact WN [0] Q Q (aH 10 Q (aP hm Q))
theorem wG {p0:Ab} {p1:(List Bool)} {r:Bool} (hm:oF p0 p1=some r):RetN TP 58 [.ptr (p0.enc) 0,.sl 1 (p1.map D.bool)] (.bool (r)):=uH bA hm
theorem oP {p0:Ab} {p1:(List Bool)} {r:Bool} (hm:gS p0 p1=some r):RetN TP 43 [p0.enc,.sl 1 (p1.map D.bool)] (.bool (r)):=by
 refine .unit (aM (bB Q) func43 Q ntmps43 Q Q (λwX gX=>?_)) Q;unfold gS at hm;exact WN [0,1] Q Q (aQ 1 Q (cO 0 Q Q Q (aJ 3 Q (zP 0 Q Q Q Q Q (aN 2 Q (c_N hm (wG ·) Q Q Q Q λr1 hm=>aE 4 Q (aP hm Q)))))))
theorem rS {p0:Program} {r:Machine} (hm:dP p0=some r):Ret TP 31 [] (λ_=>false) ([p0.enc].map .d) (.agg [.msl 0 1 0 r.vars.length,.msl 1 1 0 r.counts.length,.d (.bool (r.halted))]) [.flat 4 1 (r.vars.map D.bool),.flat 3 1 (r.counts.map (D.int .i64))]:=by
 refine cE (bB Q) func31 Q ntmps31 Q Q (λwX gX=>?_);unfold dP at hm;refine WN [0] Q Q (aQ 1 Q (cO 0 Q Q Q (dF 1 Q Q bY Q (jU (f:=D.bool) 1 0 2 4 1 Q Q Q (jU (f:=(D.int .i64)) 1 1 3 3 1 Q Q Q (aG 5 Q (c_N hm (fX ·) Q Q Q Q λr1 hm=>aJ 3 Q (iB hm Q (λh2 hm=>?_) (λh2 hm=>?_)))))))))
 ·refine aN 1 Q (SX Q Q (hO Q nM bY Q Q Q Q) (aG 1 Q (jU (f:=D.bool) 1 0 4 4 1 Q Q Q (jU (f:=(D.int .i64)) 1 1 5 3 1 Q Q Q (aJ 2 Q (WN [2] Q Q (aH 2 Q ?_)))))));obtain rfl:=OJ hm;exact⟨_,[4,5],.mk _ (.cons (.agg (TK.lay Q) Q Q Q Q) .nil) Q,by decide,k0,Q,Q⟩
 refine bD 2 Q (gU (gU (bM follows (DA [] TK Q (DA [0] TK Q (DX [] Q Q (aO TK Q Q Q) (GE hm λg3 hm=>xT [4] _ (.msl 4 1 0 (List.replicate (p0.names.length:Int).toNat false).length) Q (jW Q) Q (qGF (f:=D.bool) (x:=false) TK Q Q Q iE Q Q Q Q Q g3 Q) (DA [] TK Q (DA [0] TK Q (DX [] Q Q (aO TK Q Q Q) (GE hm λg4 hm=>xT [5] _ (.msl 5 1 0 (List.replicate (p0.Aa.length:Int).toNat (0:Int)).length) Q (jW Q) Q (qGF (f:=(D.int .i64)) (x:=(0:Int)) TK Q Q Q iS Q Q Q Q Q g4 Q) ?_)))))))))));refine DX [] Q Q (hO Q nM bY Q Q Q Q) ?_;refine DT ?_ (by kernel_rfl);refine aJ 3 Q (WN [2] Q Q (aH 1 Q ?_));obtain rfl:=OJ hm;exact⟨_,[4,5],.mk _ (.cons (.agg (TK.lay Q) Q Q Q Q) .nil) Q,by decide,k0,Q,Q⟩
theorem tW {p0:Program} {r:Machine} (hm:kT p0=some r):Ret TP 49 [] (λ_=>false) ([p0.enc].map .d) (.agg [.msl 0 1 0 r.vars.length,.msl 1 1 0 r.counts.length,.d (.bool (r.halted))]) [.flat 4 1 (r.vars.map D.bool),.flat 3 1 (r.counts.map (D.int .i64))]:=by
 refine cE (bB Q) func49 Q ntmps49 Q Q (λwX gX=>?_);unfold kT at hm;refine WN [0] Q Q (aQ 1 Q (cO 0 Q Q Q (dF 1 Q Q bY Q (jU (f:=D.bool) 1 0 2 4 1 Q Q Q (jU (f:=(D.int .i64)) 1 1 3 3 1 Q Q Q (aG 4 Q (BE hm λr1 hr1 hm=>lI Q Q Q (rS hr1) Q Q (pT 5 (.agg [.msl 4 1 0 r1.vars.length,.msl 5 1 0 r1.counts.length,.d (.bool (r1.halted))]) Q Q (dF 6 Q Q bY Q (jU (f:=D.bool) 6 0 7 4 1 Q Q Q (jU (f:=(D.int .i64)) 6 1 8 3 1 Q Q Q (aJ 3 Q ?_))))))))))));refine WN [2,3] Q Q (bD 5 Q (WN [2,3] Q Q (bD 5 Q (WN [2] Q Q (aH 1 Q ?_)))));obtain rfl:=OJ hm;exact⟨_,[4,5],.mk _ (.cons (.agg (TK.lay Q) Q Q Q Q) .nil) Q,by decide,k0,Q,Q⟩
theorem kF {p0:(List Bool)} {r:(List Bool)} (hm:cT p0=some r):Ret TP 50 [] (λ_=>false) ([.sl 1 (p0.map D.bool)].map .d) (.msl 0 1 0 r.length) [.flat 4 1 (r.map D.bool)]:=by
 refine cE (bB Q) func50 Q ntmps50 Q Q (λwX gX=>?_);unfold cT at hm;refine WN [0] Q Q (aQ 1 Q (iO (f:=D.bool) 0 4 1 Q Q Q (aG 5 Q (yP Q Tryd.underlying40 Q Q (λb1 hb1=>aJ 2 Q (TC _ Q (λh2=>?_) (λh2=>?_)))))))
 ·obtain⟨hnb1,hm⟩:=qGK (hb1 h2) hm;subst hnb1;refine aN 1 Q (iO (f:=D.bool) 1 4 1 Q Q Q (aE 4 Q ?_));obtain rfl:=OJ hm;exact⟨_,[1],res Q,by decide,k0,Q,Q⟩
 replace hm:=qGL hm;refine aN 3 Q (tJ (f:=D.bool) 1 [] ([]:List Bool) TK Q Q Q iE Q Q Q Q Q (aG 1 Q (GE hm λg3 hm=>mD (f:=D.bool) p0 TK Q Q iE Q Q Q Q Q (λh=>absurd h (zQV _)) Q mB g3 Q Q (aE 4 Q ?_))));obtain rfl:=OJ hm;exact⟨_,[1],res Q,by decide,k0,Q,Q⟩
theorem kL {p0:(List Int)} {r:(List Int)} (hm:dB p0=some r):Ret TP 51 [] (λ_=>false) ([.sl 1 (p0.map (D.int .i64))].map .d) (.msl 0 1 0 r.length) [.flat 3 1 (r.map (D.int .i64))]:=by
 refine cE (bB Q) func51 Q ntmps51 Q Q (λwX gX=>?_);unfold dB at hm;refine WN [0] Q Q (aQ 1 Q (iO (f:=(D.int .i64)) 0 3 1 Q Q Q (aG 5 Q (yP Q Tryd.underlying30 Q Q (λb1 hb1=>aJ 2 Q (TC _ Q (λh2=>?_) (λh2=>?_)))))))
 ·obtain⟨hnb1,hm⟩:=qGK (hb1 h2) hm;subst hnb1;refine aN 1 Q (iO (f:=(D.int .i64)) 1 3 1 Q Q Q (aE 4 Q ?_));obtain rfl:=OJ hm;exact⟨_,[1],res Q,by decide,k0,Q,Q⟩
 replace hm:=qGL hm;refine aN 3 Q (tJ (f:=(D.int .i64)) 1 [] ([]:List Int) TK Q Q Q iS Q Q Q Q Q (aG 1 Q (GE hm λg3 hm=>mD (f:=(D.int .i64)) p0 TK Q Q iS Q Q Q Q Q (λh=>absurd h (zQV _)) Q mB g3 Q Q (aE 4 Q ?_))));obtain rfl:=OJ hm;exact⟨_,[1],res Q,by decide,k0,Q,Q⟩
theorem mR {p0:Program} {p1:Machine} {p2:(List Bool)} {r:Machine} (hm:fW p0 p1 p2=some r):RetD TP 32 [p0.enc,p1.enc,.sl 1 (p2.map D.bool)] (r.enc):=by
 refine .of (mv:=λ_=>false) (aM (bB Q) func32 Q ntmps32 Q Q (λwX gX=>?_));unfold fW at hm;refine WN [0,1,2] Q Q (aQ 1 Q (cO 0 Q Q Q (cO 1 Q Q Q (dF 2 Q Q bY Q (jU (f:=D.bool) 2 0 3 4 1 Q Q Q (jU (f:=(D.int .i64)) 2 1 4 3 1 Q Q Q (aJ 2 Q (WN [2,3,4,6] Q Q (bD 1 Q (aZ hm (λx1=>([(18,.d (.bool (x1)))])) (λx1=>[]) [18] [2,3,4,6] Q (λz2 hm=>?_) (λx1 hm=>?_)))))))))))
 ·refine aQ 3 Q (SB TK Q (λq3 hq3=>?_));cases q3
  ·replace hm:=JB hq3 hm;exact aG 2 Q (c_N hm (xI ·) Q Q Q Q λr4 hm=>aE 3 Q (bF [0,1,2,3,4] hm Q Q))
  replace hm:=JA hq3 hm;exact aE 6 Q (bF [0,1,2,3,4] hm Q Q)
 refine WN [2,3,4,6,18] Q Q (bR hm Q (λh5 hm=>?_) (λh5 hm=>?_))
 ·refine aN 2 Q (BE hm λr6 hr6 hm=>lI Q Q Q (tW hr6) Q Q (pT 20 (.agg [.msl 5 1 0 r6.vars.length,.msl 6 1 0 r6.counts.length,.d (.bool (r6.halted))]) Q Q (aJ 3 Q (WN [6] Q Q (aH 2 Q ?_)))));obtain rfl:=OJ hm;exact EndsS.cellR _ TK Q Q Q Q Q (pQ (.cons (fT Q) Q (.cons (fT Q) Q (.cons (.d _) Q .nil))))
 refine bD 2 Q (gU (gU (gU (bM follows (DA [] TK Q (DA [1] TK Q (BE hm λr7 hr7 hm=>?_)))))));refine xT [5] [(5,.flat 4 1 (r7.map D.bool))] (.msl 5 1 0 r7.length) Q (jW Q) Q (uS (Bs:=[.flat 4 1 (r7.map D.bool)]) [5] (by intro i h;simp only [zQB,List.not_mem_nil,or_false] at h;rcases h with rfl<;>rfl) (by decide) Q Q Q Q (kF hr7) (by intro B h;simp only [zQB,List.not_mem_nil,or_false] at h;rcases h with rfl<;>exact sV (λ_=>Q)) (.msl _ _ _ _) Q (by intro B h;simp only [zQB,List.not_mem_nil,or_false] at h;rcases h with rfl<;>rfl)) ?_;refine DA [] TK Q (DA [1] TK Q (BE hm λr8 hr8 hm=>?_));refine xT [6] [(6,.flat 3 1 (r8.map (D.int .i64)))] (.msl 6 1 0 r8.length) Q (jW Q) Q (uS (Bs:=[.flat 3 1 (r8.map (D.int .i64))]) [6] (by intro i h;simp only [zQB,List.not_mem_nil,or_false] at h;rcases h with rfl<;>rfl) (by decide) Q Q Q Q (kL hr8) (by intro B h;simp only [zQB,List.not_mem_nil,or_false] at h;rcases h with rfl<;>exact sV (λ_=>Q)) (.msl _ _ _ _) Q (by intro B h;simp only [zQB,List.not_mem_nil,or_false] at h;rcases h with rfl<;>rfl)) ?_;refine DX [] Q Q (hO Q nM bY Q Q Q Q) (xT [7] _ (.mptr 7 0 0 0) Q (jW Q) Q (tF Q Q bY Q Q) ?_);refine DT ?_ (by kernel_rfl);refine aJ 3 Q (WN [2,3,6,7] Q Q (aZ hm (λb9=>[]) (λb9=>([(5,.flat 4 1 (b9.map D.bool)),(7,.box 42 [.msl 5 1 0 b9.length,.msl 6 1 0 r8.length,.d (.bool (false))])])) [] [3,6,7] Q (λz10 hm=>?_) (λb9 hm=>?_)))
 ·refine bS 7 Q (bJ hm (λ(x14,b15)=>([(30,.d (.int .i64 x14))])) (λ(x14,b15)=>([(5,.flat 4 1 (b15.map D.bool)),(7,.box 42 [.msl 5 1 0 b15.length,.msl 6 1 0 r8.length,.d (.bool (false))])])) [30] [2,3,6,7,29] [0,1,2,3,4,5,6,7] Q k0 Q Q Q Q Q (λs z16 hm hz16=>?_));obtain⟨x14,b15⟩:=s;refine WN [2,3,6,7,29,30] Q Q (bS 5 Q (bL hm Q (λh17 hm=>?_) (λh17 hm=>?_)))
  ·refine bD 9 Q (gQ follows ?_);iterate 5 (refine DA [0,1,2,3,4,5,6,7] TK Q ?_)
   refine DX [0,1,2,3,4,5,6,7] Q Q (aO TK Q Q Q) (DA [0,1,2,3,4,5,6,7] TK Q (d_b [0,1,2,3,4,5,6,7] TK Q (λq18 hq18=>?_)));cases q18
   ·replace hm:=JF hq18 hm;iterate 5 (refine DA [0,1,2,3,4,5,6,7] TK Q ?_)
    refine VE hm λe19 he19 hm=>DX [0,1,2,3,4,5,6,7] Q Q (eY TK Q Q Q Q he19 Q) ?_;refine DT ?_ (by kernel_rfl);refine nC (x':=false) TK Q Q Q Q Q he19.2 Q Q Q (eH 34 (b15.set x14.toNat false).length Q List.length_set.symm ?_);refine sE 7 [.msl 5 1 0 (b15.set x14.toNat false).length,.msl 6 1 0 r8.length,.d (.bool (false))] Q (by simp only [List.length_set]<;>rfl) ?_;exact aJ 3 Q (WN [2,3,6,7,29,30] Q Q (aN 1 Q (GE hm λg20 hm=>SX Q Q (bW Q Q Q Q g20) (aE 2 Q (bT [0,1,2,3,4,5,6,7] hm Q Q)))))
   replace hm:=JT hq18 hm;iterate 2 (refine DA [0,1,2,3,4,5,6,7] TK Q ?_)
   refine VE hm λe21 he21 hm=>DX [0,1,2,3,4,5,6,7] Q Q (dH TK Q Q Q Q he21) ?_;iterate 2 (refine DA [0,1,2,3,4,5,6,7] TK Q ?_)
   refine VE hm λe22 he22 hm=>DX [0,1,2,3,4,5,6,7] Q Q (eY TK Q Q Q Q he22 Q) ?_;refine DT ?_ (by kernel_rfl);refine nC (x':=e21) TK Q Q Q Q Q he22.2 Q Q Q (eH 34 (b15.set x14.toNat e21).length Q List.length_set.symm ?_);refine sE 7 [.msl 5 1 0 (b15.set x14.toNat e21).length,.msl 6 1 0 r8.length,.d (.bool (false))] Q (by simp only [List.length_set]<;>rfl) ?_;exact aJ 3 Q (WN [2,3,6,7,29,30] Q Q (aN 1 Q (GE hm λg23 hm=>SX Q Q (bW Q Q Q Q g23) (aE 2 Q (bT [0,1,2,3,4,5,6,7] hm Q Q)))))
  refine aH 2 Q (IE hm λv24 hm hz=>?_);rw [hz16 _ hz] at hm;exact WX (bK 1 Q (bF [0,1,2,3,4,5,6,7] hm Q Q))
 refine WN [3,6,7] Q Q (aZ hm (λ(b25,b26)=>[]) (λ(b25,b26)=>([(5,.flat 4 1 (b25.map D.bool)),(6,.flat 3 1 (b26.map (D.int .i64))),(7,.box 42 [.msl 5 1 0 b25.length,.msl 6 1 0 b26.length,.d (.bool (false))])])) [] [6,7] Q (λz27 hm=>?_) (λj hm=>?_))
 ·refine aQ 3 Q (SX Q Q (aO TK Q Q Q) (aJ 4 Q (bJ hm (λ(x32,b33,b34)=>([(51,.d (.int .i64 x32))])) (λ(x32,b33,b34)=>([(5,.flat 4 1 (b33.map D.bool)),(6,.flat 3 1 (b34.map (D.int .i64))),(7,.box 42 [.msl 5 1 0 b33.length,.msl 6 1 0 b34.length,.d (.bool (false))])])) [51] [6,7,49,50] [0,1,2,3,4,5,6,7] Q k0 Q Q Q Q Q (λs z35 hm hz35=>?_))));obtain⟨x32,b33,b34⟩:=s;refine WN [6,7,49,50,51] Q Q (bS 5 Q (bL hm Q (λh36 hm=>?_) (λh36 hm=>?_)))
  ·refine aN 6 Q (VE hm λe37 he37 hm=>SX Q Q (dH TK Q Q Q Q he37) (aG 1 Q (dF 8 Q Q kH Q (dC 8 [none,none,none,none,none,some 3] Q Q (aJ 4 Q (WN [6,7,9,10,49,50,51] Q Q (gQ follows (DA [] TK Q (DA [7] TK Q ?_)))))))));iterate 2 (refine DA [] TK Q ?_)
   refine DA [7] TK Q (DA [] TK Q ?_);iterate 2 (refine DA [8] TK Q ?_)
   refine yA [] hm (qG ·) Q Q Q Q λr38 hm=>?_;iterate 2 (refine DA [] TK Q ?_)
   refine DA [7] TK Q (DA [] TK Q (VE hm λe39 he39 hm=>DX [] Q Q (eY TK Q Q Q Q he39 Q) (DX [6] Q Q (mZ TK Q Q Q Q he39.2 Q) (DA [] TK Q (DA [8] TK Q (DA [] TK Q (DA [7] TK Q (BE hm λr40 hr40 hm=>DX [5] Q Q (RN Q Q (SC (.d _) (SC (fT Q) SN)) (oP hr40)) ?_))))))))
   cases h41:r38.act with
   | c60=>
    rw [h41] at hm;dsimp only at hm;refine BE hm λr42 hr42 hm=>?_;obtain⟨r43,r44⟩:=r42;refine DX [] Q Q (oA (ds:=[.int .i64 e39,.bool (r40)]) Q Q Q Q (nL hr42)) ?_;iterate 3 (refine DA [] TK Q ?_)
    refine VE hm λe45 he45 hm=>DX [] Q Q (eY TK Q Q Q Q he45 Q) (d_st 1000023 [6] [(6,.flat 3 1 ((b34.set x32.toNat r43).map (D.int .i64)))] (jW Q) Q (qBL (z':=r43) TK Q Q Q Q Q Q Q he45.2 Q Q Q) (VE hm λe46 he46 hm=>DX [] Q Q (eY TK Q Q Q Q he46 Q) ?_));refine DT ?_ (by kernel_rfl);refine eH 58 (b34.set x32.toNat r43).length Q List.length_set.symm (eH 68 (b34.set x32.toNat r43).length Q List.length_set.symm ?_);refine sE 7 [.msl 5 1 0 b33.length,.msl 6 1 0 (b34.set x32.toNat r43).length,.d (.bool (false))] Q (by simp only [List.length_set]<;>rfl) ?_;refine nC (x':=r44) TK Q Q Q Q Q he46.2 Q Q Q (eH 61 (b33.set e37.var.toNat r44).length Q List.length_set.symm (eH 75 (b33.set e37.var.toNat r44).length Q List.length_set.symm ?_));refine sE 7 [.msl 5 1 0 (b33.set e37.var.toNat r44).length,.msl 6 1 0 (b34.set x32.toNat r43).length,.d (.bool (false))] Q (by simp only [List.length_set]<;>rfl) ?_;exact aJ 3 Q (WN [6,7,49,50,51] Q Q (aN 1 Q (GE hm λg47 hm=>SX Q Q (bW Q Q Q Q g47) (aE 2 Q (bT [0,1,2,3,4,5,6,7] hm Q Q)))))
   | c61 u48=>
    rw [h41] at hm;dsimp only at hm;refine BE hm λr49 hr49 hm=>?_;obtain⟨r50,r51⟩:=r49;refine DX [] Q Q (oA (ds:=[.int .i64 e39,.bool (r40)]) Q Q Q Q (nJ hr49)) ?_;iterate 3 (refine DA [] TK Q ?_)
    refine VE hm λe52 he52 hm=>DX [] Q Q (eY TK Q Q Q Q he52 Q) (d_st 1000024 [6] [(6,.flat 3 1 ((b34.set x32.toNat r50).map (D.int .i64)))] (jW Q) Q (qBL (z':=r50) TK Q Q Q Q Q Q Q he52.2 Q Q Q) (VE hm λe53 he53 hm=>DX [] Q Q (eY TK Q Q Q Q he53 Q) ?_));refine DT ?_ (by kernel_rfl);refine eH 58 (b34.set x32.toNat r50).length Q List.length_set.symm (eH 68 (b34.set x32.toNat r50).length Q List.length_set.symm ?_);refine sE 7 [.msl 5 1 0 b33.length,.msl 6 1 0 (b34.set x32.toNat r50).length,.d (.bool (false))] Q (by simp only [List.length_set]<;>rfl) ?_;refine nC (x':=r51) TK Q Q Q Q Q he53.2 Q Q Q (eH 61 (b33.set e37.var.toNat r51).length Q List.length_set.symm (eH 75 (b33.set e37.var.toNat r51).length Q List.length_set.symm ?_));refine sE 7 [.msl 5 1 0 (b33.set e37.var.toNat r51).length,.msl 6 1 0 (b34.set x32.toNat r50).length,.d (.bool (false))] Q (by simp only [List.length_set]<;>rfl) ?_;exact aJ 3 Q (WN [6,7,49,50,51] Q Q (aN 1 Q (GE hm λg54 hm=>SX Q Q (bW Q Q Q Q g54) (aE 2 Q (bT [0,1,2,3,4,5,6,7] hm Q Q)))))
  refine aH 2 Q (IE hm λv55 hm hz=>?_);rw [hz35 _ hz] at hm;exact WX (bK 1 Q (bF [0,1,2,3,4,5,6,7] hm Q Q))
 obtain⟨b25,b26⟩:=j;refine WN [6,7] Q Q (bD 5 Q (WN [6] Q Q (aH 1 Q ?_)));obtain rfl:=OJ hm;exact EndsS.cellR _ TK Q Q Q Q Q (pQ (.cons (fT Q) Q (.cons (fT Q) Q (.cons (.d _) Q .nil))))
theorem nO {p0:Ac} {p1:Machine} {r:Bool} (hm:gG p0 p1=some r):RetN TP 42 [p0.enc,.ptr (p1.enc) 0] (.bool (r)):=by
 refine .unit (aM (bB Q) func42 Q ntmps42 Q Q (λwX gX=>?_)) Q;unfold gG at hm;exact WN [0,1] Q Q (aQ 1 Q (cO 0 Q Q Q (aG 8 Q (c_N hm (oP ·) Q Q Q Q λr1 hm=>aE 5 Q (aP hm Q)))))
theorem fU {p0:(List Ac)} {p1:Ac->Option Bool} {c1:D} (hf1:∀ a0 r,p1 a0=some r->∃ F cs,qAQ c1=some (F,cs)/\RetD TP F ([a0.enc]++cs) (.bool (r))) {r:Int} (hm:cI p0 p1=some r):RetN TP 41 [.sl 4 (p0.map Ac.enc),c1] (.int .i64 r):=by
 refine .unit (aM (bB Q) func41 Q ntmps41 Q Q (λwX gX=>?_)) Q;unfold cI at hm;refine WN [0,1] Q Q (bS 4 Q (bN hm (λ_=>[]) (λ_=>[]) [] [] Q (λz1 hm hz1=>?_) (λj hm=>?_)))
 ·refine aQ 2 Q (SX Q Q (aO TK Q Q Q) (aJ 4 Q (bJ hm (λx3=>([(8,.d (.int .i64 x3))])) (λx3=>[]) [8] [0,1,7] [] Q k0 Q Q Q Q Q (λx3 z4 hm hz4=>WN [0,1,7,8] Q Q (bS 5 Q (bL hm Q (λh5 hm=>?_) (λh5 hm=>?_)))))))
  ·refine aN 13 Q (VE hm λe6 he6 hm=>SX Q Q (dH TK Q Q Q Q he6) (aG 1 Q (BE hm λr7 hr7 hm=>?_)));obtain⟨Fr7,csr7,hFr7,hcr7⟩:=hf1 _ _ hr7;refine SX Q Q (qCN Q Q hFr7 Q hcr7) (aJ 2 Q (bR hm Q (λh8 hm=>?_) (λh8 hm=>?_)))
   ·refine aH 8 Q (IE hm λv9 hm hz=>?_);rw [hz4 _ hz] at hm;refine WR (bK 1 Q (IE hm λv10 hm hz=>?_));rw [hz1 _ hz] at hm;exact WR (aP hm Q)
   exact aN 4 Q (GE hm λg11 hm=>SX Q Q (bW Q Q Q Q g11) (aE 2 Q (bT [] hm Q Q)))
  refine aH 2 Q (IE hm λv12 hm hz=>?_);rw [hz4 _ hz] at hm;exact WX (bK 1 Q (bT [] hm Q Q))
 exact WN [] Q Q (aH 5 Q (aP hm Q))
theorem qI {p0:(List Ac)} {p1:Machine} {r:Int} (hm:jQ p0 p1=some r):RetN TP 26 [.sl 4 (p0.map Ac.enc),p1.enc] (.int .i64 r):=by
 refine .unit (aM (bB Q) func26 Q ntmps26 Q Q (λwX gX=>?_)) Q;unfold jQ at hm;exact WN [0,1] Q Q (aQ 1 Q (cO 0 Q Q Q (aJ 3 Q (zP 0 Q Q Q Q Q (aN 3 Q (BE hm λr1 hr1 hm=>SX Q Q (RN Q Q (lH Q) (fU (λ_ r h=>⟨42,_,Q,(nO h).retD⟩) hr1)) (aE 4 Q (aP hm Q))))))))
theorem eI {s0:(List BA)} {s1:Int} {s2:(List Af)} {s3:(List (List Bool))} {s4:Int} {s5:List Ae} {s6:List (BA×Bool)}:Ret TP 25 [.box 70 [.d (.sl 1 (s0.map D.str)),.d (.int .i64 s1),.d (.sl 6 (s2.map Af.enc)),.d (.sl 1 (s3.map (λ(l:List Bool)=>D.sl 1 (l.map D.bool)))),.d (.int .i64 s4),.msl 1 6 0 s5.length,.mmap 2],.flat 66 6 (s5.map Ae.enc),.map 9 4 (aT D.str D.bool s6)] (λ_=>false) [.mptr 0 0 0 0] (.fnc 38 [.mptr 3 0 0 0]) [.box 70 [.d (.sl 1 (s0.map D.str)),.d (.int .i64 s1),.d (.sl 6 (s2.map Af.enc)),.d (.sl 1 (s3.map (λ(l:List Bool)=>D.sl 1 (l.map D.bool)))),.d (.int .i64 s4),.msl 1 6 0 s5.length,.mmap 2],.flat 66 6 (s5.map Ae.enc),.map 9 4 (aT D.str D.bool s6),.box 58 [.mptr 0 0 0 0]]:=by
 refine cE (bB Q) func25 Q ntmps25 Q Q (λwX gX=>WN [0] Q Q (aQ 1 Q (cO 3 Q Q Q (aG 4 Q (SX Q Q (vI Q) (aE 4 Q ?_))))));exact⟨_,[0,1,2,3],res Q,by decide,kB Q,Q,Q⟩
theorem jT {p0:Ah} {p1:Int} {r:(List Int)} (hm:eA p0 p1=some r):Ret TP 27 [.box 70 [.d (.sl 1 (p0.p.names.map D.str)),.d (.int .i64 p0.p.inputs),.d (.sl 6 (p0.p.Aa.map Af.enc)),.d (.sl 1 (p0.inputs.map (λ(l:List Bool)=>D.sl 1 (l.map D.bool)))),.d (.int .i64 p0.depth),.msl 1 6 0 p0.visits.length,.mmap 2],.flat 66 6 (p0.visits.map Ae.enc),.map 9 4 (aT D.str D.bool p0.seen)] (λ_=>false) [.mptr 0 0 0 0,.d (.int .i64 p1)] (.d (.sl 1 (r.map (D.int .i64)))) [.box 70 [.d (.sl 1 (p0.p.names.map D.str)),.d (.int .i64 p0.p.inputs),.d (.sl 6 (p0.p.Aa.map Af.enc)),.d (.sl 1 (p0.inputs.map (λ(l:List Bool)=>D.sl 1 (l.map D.bool)))),.d (.int .i64 p0.depth),.msl 1 6 0 p0.visits.length,.mmap 2],.flat 66 6 (p0.visits.map Ae.enc),.map 9 4 (aT D.str D.bool p0.seen)]:=by
 refine cE (bB Q) func27 Q ntmps27 Q Q (λwX gX=>?_);unfold eA at hm;refine WN [0,1] Q Q (aQ 5 Q (iO (f:=(D.int .i64)) 3 3 1 Q Q Q (aJ 2 Q (aZ hm (λb1=>([(5,.msl 3 1 0 b1.length)])) (λb1=>([(3,.flat 3 1 (b1.map (D.int .i64)))])) [5] [] Q (λz2 hm=>?_) (λb1 hm=>?_)))))
 ·refine bS 1 Q (bJ hm (λ(at6,b7)=>([(1,.d (.int .i64 at6)),(5,.msl 3 1 0 b7.length)])) (λ(at6,b7)=>([(3,.flat 3 1 (b7.map (D.int .i64)))])) [1,5] [0] [0,1,2,3] Q (kB Q) Q Q Q Q Q (λs z8 hm hz8=>?_));obtain⟨at6,b7⟩:=s;refine WN [0,1,5] Q Q (aQ 7 Q (VE hm λe9 he9 hm=>SX Q Q (eY TK Q Q Q Q he9 Q) (aG 1 Q (SX Q Q (mZ TK Q Q Q Q he9.2 Q) (aJ 3 Q (bL hm Q (λh10 hm=>?_) (λh10 hm=>?_)))))))
  ·refine aN 10 Q (VE hm λe11 he11 hm=>SX Q Q (eY TK Q Q Q Q he11 Q) (aG 1 Q (SX Q Q (mZ TK Q Q Q Q he11.2 Q) (SX Q Q (gK [.tmp 23] TK Q Q iS Q Q Q Q Q) (GE hm λg12 hm=>?_)))));refine mD (f:=(D.int .i64)) ([e11.input]:List Int) TK Q Q iS Q Q Q Q Q (λh=>absurd (show 3 < 3 from h) (by decide)) Q mB g12 Q Q ?_;exact aJ 3 Q (WN [0,1,5] Q Q (aN 6 Q (VE hm λe13 he13 hm=>SX Q Q (eY TK Q Q Q Q he13 Q) (aG 1 Q (SX Q Q (mZ TK Q Q Q Q he13.2 Q) (aE 3 Q (e_l [0,1,2,3] hm Q (kB Q) Q)))))))
  refine aH 2 Q (IE hm λv14 hm hz=>?_);rw [hz8 _ hz] at hm;exact WX (bK 1 Q (e_j [0,1,2,3] hm Q (kB Q) Q))
 refine WN [5] Q Q (aN 2 Q (GE hm λg15 hm=>?_));refine qER [3] Q Q Q (by simp) Q Q Q (kK b1 g15) Q Q ?_;refine eH 5 (wZ b1).length Q (kO _).symm (eH 34 (wZ b1).length Q (kO _).symm (aJ 7 Q ?_));refine qDX 4 3 [] Q Q Q Q Q (by simp) Q Q ?_;refine aH 1 Q ?_;obtain rfl:=OJ hm;exact⟨_,[0,1,2],res Q,by decide,(kB Q),Q,Q⟩
theorem cW {p0:Ah} {p1:Machine} {p2:Int} {p3:Int} {p4:Int} {r:Ah} (hm:cB p0 p1 p2 p3 p4=some r):Ret TP 39 [.box 70 [.d (.sl 1 (p0.p.names.map D.str)),.d (.int .i64 p0.p.inputs),.d (.sl 6 (p0.p.Aa.map Af.enc)),.d (.sl 1 (p0.inputs.map (λ(l:List Bool)=>D.sl 1 (l.map D.bool)))),.d (.int .i64 p0.depth),.msl 1 6 0 p0.visits.length,.mmap 2],.flat 66 6 (p0.visits.map Ae.enc),.map 9 4 (aT D.str D.bool p0.seen)] (λj=>Nat.beq j 1) [.mptr 0 0 0 0,.d (p1.enc),.d (.int .i64 p2),.d (.int .i64 p3),.d (.int .i64 p4)] (.tup []) [.box 70 [.d (.sl 1 (p0.p.names.map D.str)),.d (.int .i64 p0.p.inputs),.d (.sl 6 (p0.p.Aa.map Af.enc)),.d (.sl 1 (p0.inputs.map (λ(l:List Bool)=>D.sl 1 (l.map D.bool)))),.d (.int .i64 p0.depth),.msl 1 6 0 r.visits.length,.mmap 2],.flat 66 6 (r.visits.map Ae.enc),.map 9 4 (aT D.str D.bool r.seen)]:=by
 refine cE (bB Q) func39 Q ntmps39 Q Q (λwX gX=>?_);unfold cB at hm;refine WN [0,1,2,3,4] Q Q (aQ 1 Q (cO 3 Q Q Q (aJ 2 Q (bM follows ?_))));iterate 5 (refine DA [0,1,2,3] TK Q ?_)
 refine xZ [0,1,2,3] hm (iQ ·) Q Q Q Q λr1 hm=>?_;refine DT ?_ (by kernel_rfl);refine GE hm λg2 hm=>s_putE qP D.bool qDD Q Q Q Q g2 (aJ 2 Q (gQ follows ?_));iterate 9 (refine DA [0,1,2,3] TK Q ?_)
 refine DX [0,1,2,3] Q Q (bZ Q plc66 nW Q Q Q Q) (DX [0,1,2,3] Q Q (gK [.tmp 25] TK Q Q nW Q Q Q Q Q) ?_);refine qFR 0 16 ?_ ?_ Q (by kernel_rfl) (by kernel_rfl) (by kernel_rfl)
 ·refine GE hm λg3 hm=>mD (f:=Ae.enc) ([(⟨p1,p2,p3,p4⟩:Ae)]:List Ae) TK Q Q nW Q Q Q Q Q (λ_=>Q) Q mB g3 Q Q (aE 4 Q ?_);obtain rfl:=OJ hm;exact⟨_,[0,1,2],res Q,by decide,(kB Q),Q,Q⟩
 refine GE hm λg4 hm=>mD (f:=Ae.enc) ([(⟨p1,p2,p3,p4⟩:Ae)]:List Ae) TK Q Q nW Q Q Q Q Q (λ_=>Q) Q mB g4 Q Q (aE 5 Q ?_);obtain rfl:=OJ hm;exact⟨_,[0,1,2],res Q,by decide,(kB Q),Q,Q⟩
theorem gB {s0:(List Ac)} {s1:(List Int)} {s2:Bool} {s3:Int} {s4:(List BA)} {s5:Int} {s6:(List Af)} {s7:(List (List Bool))} {s8:Int} {s9:List (BA×Bool)} {s10:List Ae} {u0:(List Ac)} {u1:(List Int)} {u2:Bool} {u3:Int} {u4:(List BA)} {u5:Int} {u6:(List Af)} {u7:(List (List Bool))} {u8:Int} {u9:List (BA×Bool)} {u10:List Ae} {i0:Int} {i1:Int} {b:Bool} (hm:eV s0 s1 s2 s3 s4 s5 s6 s7 s8 s9 s10 i0 i1=some (b,u0,u1,u2,u3,u4,u5,u6,u7,u8,u9,u10)):qBC TP [.lp .ready none (gH Tryd.f10).1 (gH Tryd.f10).2.1 (gH Tryd.f10).2.2 46 [(5,.mptr 1 0 0 0),(8,.mptr 2 0 0 0),(9,.mptr 3 0 0 0),(10,.mptr 4 0 0 0),(11,.mptr 7 0 0 0),(26,.fnc 38 [.mptr 9 0 0 0])],.box 26 [.d (.sl 4 (s0.map Ac.enc))],.box 30 [.d (.sl 1 (s1.map (D.int .i64)))],.box 4 [.d (.bool (s2))],.box 31 [.d (.int .i64 s3)],.box 70 [.d (.sl 1 (s4.map D.str)),.d (.int .i64 s5),.d (.sl 6 (s6.map Af.enc)),.d (.sl 1 (s7.map (λ(l:List Bool)=>D.sl 1 (l.map D.bool)))),.d (.int .i64 s8),.msl 8 6 0 s10.length,.mmap 6],.map 9 4 (aT D.str D.bool s9),.box 58 [.mptr 5 0 0 0],.flat 66 6 (s10.map Ae.enc),.box 58 [.mptr 5 0 0 0]] (λ_=>false) [.d (.int .i64 i0),.d (.int .i64 i1)] (.d (.bool b)) [mJ b (gH Tryd.f10).1 (gH Tryd.f10).2.1 (gH Tryd.f10).2.2 46 [(5,.mptr 1 0 0 0),(8,.mptr 2 0 0 0),(9,.mptr 3 0 0 0),(10,.mptr 4 0 0 0),(11,.mptr 7 0 0 0),(26,.fnc 38 [.mptr 9 0 0 0])],.box 26 [.d (.sl 4 (u0.map Ac.enc))],.box 30 [.d (.sl 1 (u1.map (D.int .i64)))],.box 4 [.d (.bool (u2))],.box 31 [.d (.int .i64 u3)],.box 70 [.d (.sl 1 (u4.map D.str)),.d (.int .i64 u5),.d (.sl 6 (u6.map Af.enc)),.d (.sl 1 (u7.map (λ(l:List Bool)=>D.sl 1 (l.map D.bool)))),.d (.int .i64 u8),.msl 8 6 0 u10.length,.mmap 6],.map 9 4 (aT D.str D.bool u9),.box 58 [.mptr 5 0 0 0],.flat 66 6 (u10.map Ae.enc),.box 58 [.mptr 5 0 0 0]]:=by
 refine sH Q Q Q Q (λwX gX lX=>?_);unfold eV at hm;refine mM (dQ Q (aE 2 Q (WT (dQ Q (aE 2 Q ?_)))));refine⟨Q,Q,?_⟩;refine zB (mM (mM (dQ Q (aE 3 Q (WT (qGP hm Q (λh1 hm=>?_) (λh1 hm=>?_)))))))
 ·refine mM (dQ Q (aG 2 Q (dC 2 [some 1] Q Q (aE 3 Q (WT (vZ (WR (WB ?_))))))));cases hm;exact uQ [0,1,2,3,4,5,6,7,8,9] (.inr ⟨Q,Q⟩) Q (kB Q) Q Q
 refine xP (WT (mM (qFK follows Q ?_)));iterate 6 (refine DA [0,1,2,3,4,5,6,7,8,9] TK Q ?_)
 refine VE hm λe2 he2 hm=>DX [0,1,2,3,4,5,6,7,8,9] Q Q (eY TK Q Q Q Q he2 Q) (DA [0,1,2,3,4,5,6,7,8,9] TK Q (DX [0,1,2,3,4,5,6,7,8,9] Q Q (mZ TK Q Q Q Q he2.2 Q) (xZ [0,1,2,3,4,5,6,7,8,9] hm (qI ·) Q Q Q Q λr3 hm=>DA [0,1,2,3,4,5,6,7,8,9] TK Q ?_)));refine DT ?_ (by kernel_rfl);refine aE 1 Q (WT (i_if hm Q (λh4 hm=>?_) (λh4 hm=>?_)))
 ·refine mM (dQ Q (aG 2 Q (BE hm λr5 hr5 hm=>?_)));refine SX Q Q (qCL [5,8,6] ⟨Q,Q,λ_=>Q⟩ Q Q Q (by decide) Q (xY Q) Q Q (jT hr5)) ?_;refine aE 4 Q (WT (vZ (WB ?_)));cases hm;exact uQ [0,1,2,3,4,5,6,7,8,9] (.inr ⟨Q,Q⟩) Q (kB Q) Q Q
 refine xP (WK ?_);cases hm;exact uQ [0,1,2,3,4,5,6,7,8,9] (.inl ⟨Q,Q⟩) Q (kB Q) Q Q
theorem gM {ps:Array Tmp} {asg body:Code} {n:Nat} {Y:((List Ac))->((List Int))->Bool->Int->((List BA))->Int->((List Af))->((List (List Bool)))->Int->(List (BA×Bool))->(List Ae)->Int->Int->Option (Bool×((List Ac))×((List Int))×Bool×Int×((List BA))×Int×((List Af))×((List (List Bool)))×Int×(List (BA×Bool))×(List Ae))} (hY:∀ {s0:(List Ac)} {s1:(List Int)} {s2:Bool} {s3:Int} {s4:(List BA)} {s5:Int} {s6:(List Af)} {s7:(List (List Bool))} {s8:Int} {s9:List (BA×Bool)} {s10:List Ae} {u0:(List Ac)} {u1:(List Int)} {u2:Bool} {u3:Int} {u4:(List BA)} {u5:Int} {u6:(List Af)} {u7:(List (List Bool))} {u8:Int} {u9:List (BA×Bool)} {u10:List Ae} {i0:Int} {i1:Int} {b:Bool},Y s0 s1 s2 s3 s4 s5 s6 s7 s8 s9 s10 i0 i1=some (b,u0,u1,u2,u3,u4,u5,u6,u7,u8,u9,u10)->qBC TP [.lp .ready none ps asg body n [(5,.mptr 1 0 0 0),(8,.mptr 2 0 0 0),(9,.mptr 3 0 0 0),(10,.mptr 4 0 0 0),(11,.mptr 7 0 0 0),(26,.fnc 38 [.mptr 9 0 0 0])],.box 26 [.d (.sl 4 (s0.map Ac.enc))],.box 30 [.d (.sl 1 (s1.map (D.int .i64)))],.box 4 [.d (.bool (s2))],.box 31 [.d (.int .i64 s3)],.box 70 [.d (.sl 1 (s4.map D.str)),.d (.int .i64 s5),.d (.sl 6 (s6.map Af.enc)),.d (.sl 1 (s7.map (λ(l:List Bool)=>D.sl 1 (l.map D.bool)))),.d (.int .i64 s8),.msl 8 6 0 s10.length,.mmap 6],.map 9 4 (aT D.str D.bool s9),.box 58 [.mptr 5 0 0 0],.flat 66 6 (s10.map Ae.enc),.box 58 [.mptr 5 0 0 0]] (λ_=>false) [.d (.int .i64 i0),.d (.int .i64 i1)] (.d (.bool b)) [mJ b ps asg body n [(5,.mptr 1 0 0 0),(8,.mptr 2 0 0 0),(9,.mptr 3 0 0 0),(10,.mptr 4 0 0 0),(11,.mptr 7 0 0 0),(26,.fnc 38 [.mptr 9 0 0 0])],.box 26 [.d (.sl 4 (u0.map Ac.enc))],.box 30 [.d (.sl 1 (u1.map (D.int .i64)))],.box 4 [.d (.bool (u2))],.box 31 [.d (.int .i64 u3)],.box 70 [.d (.sl 1 (u4.map D.str)),.d (.int .i64 u5),.d (.sl 6 (u6.map Af.enc)),.d (.sl 1 (u7.map (λ(l:List Bool)=>D.sl 1 (l.map D.bool)))),.d (.int .i64 u8),.msl 8 6 0 u10.length,.mmap 6],.map 9 4 (aT D.str D.bool u9),.box 58 [.mptr 5 0 0 0],.flat 66 6 (u10.map Ae.enc),.box 58 [.mptr 5 0 0 0]]) {s0:(List Ac)} {s1:(List Int)} {s2:Bool} {s3:Int} {s4:(List BA)} {s5:Int} {s6:(List Af)} {s7:(List (List Bool))} {s8:Int} {s9:List (BA×Bool)} {s10:List Ae} {u0:(List Ac)} {u1:(List Int)} {u2:Bool} {u3:Int} {u4:(List BA)} {u5:Int} {u6:(List Af)} {u7:(List (List Bool))} {u8:Int} {u9:List (BA×Bool)} {u10:List Ae} {b:Bool} (hm:fH Y s0 s1 s2 s3 s4 s5 s6 s7 s8 s9 s10=some (b,u0,u1,u2,u3,u4,u5,u6,u7,u8,u9,u10)):Ret TP 38 [.lp .ready none ps asg body n [(5,.mptr 1 0 0 0),(8,.mptr 2 0 0 0),(9,.mptr 3 0 0 0),(10,.mptr 4 0 0 0),(11,.mptr 7 0 0 0),(26,.fnc 38 [.mptr 9 0 0 0])],.box 26 [.d (.sl 4 (s0.map Ac.enc))],.box 30 [.d (.sl 1 (s1.map (D.int .i64)))],.box 4 [.d (.bool (s2))],.box 31 [.d (.int .i64 s3)],.box 70 [.d (.sl 1 (s4.map D.str)),.d (.int .i64 s5),.d (.sl 6 (s6.map Af.enc)),.d (.sl 1 (s7.map (λ(l:List Bool)=>D.sl 1 (l.map D.bool)))),.d (.int .i64 s8),.msl 8 6 0 s10.length,.mmap 6],.map 9 4 (aT D.str D.bool s9),.box 58 [.mptr 5 0 0 0],.flat 66 6 (s10.map Ae.enc),.box 58 [.mptr 5 0 0 0]] (λj=>Nat.beq j 8) [.yld 0,.mptr 9 0 0 0] (.tup []) [mJ b ps asg body n [(5,.mptr 1 0 0 0),(8,.mptr 2 0 0 0),(9,.mptr 3 0 0 0),(10,.mptr 4 0 0 0),(11,.mptr 7 0 0 0),(26,.fnc 38 [.mptr 9 0 0 0])],.box 26 [.d (.sl 4 (u0.map Ac.enc))],.box 30 [.d (.sl 1 (u1.map (D.int .i64)))],.box 4 [.d (.bool (u2))],.box 31 [.d (.int .i64 u3)],.box 70 [.d (.sl 1 (u4.map D.str)),.d (.int .i64 u5),.d (.sl 6 (u6.map Af.enc)),.d (.sl 1 (u7.map (λ(l:List Bool)=>D.sl 1 (l.map D.bool)))),.d (.int .i64 u8),.msl 8 6 0 u10.length,.mmap 6],.map 9 4 (aT D.str D.bool u9),.box 58 [.mptr 5 0 0 0],.flat 66 6 (u10.map Ae.enc),.box 58 [.mptr 5 0 0 0]]:=by
 refine cE (bB Q) func38 Q ntmps38 Q Q (λwX gX=>?_);unfold fH at hm;refine WN [0,1] Q Q (aQ 5 Q (c_D hm (kS ·) Q Q Q Q λr1 hm=>dF 10 Q Q bY Q (dC 10 [some 1,some 1,none] Q Q (aJ 3 Q (WN [0,1,3] Q Q (aN 3 Q (BE hm λr2 hr2 hm=>?_)))))));refine eD [5,8,6] (λj=>Nat.beq j 1) Q Q Q (by decide) Q Q Q Q (cW hr2) Q Q Q ?_;refine aJ 2 Q (WN [0,1] Q Q (bD 1 Q (oI (fG 1 Q Q Q (aE 2 Q ?_)))));obtain⟨⟨b14,u3,u4,u5,u6,u7,u8,u9,u10,u11,u12,u13⟩,hr15,hm⟩:=BI hm;refine lO 0 [0,1,2,3,4,5,6,7,8,9] (λ_=>false) Q Q Q Q (by decide) Q Q Q Q (hY hr15) Q Q Q ?_;cases b14
 ·replace hm:=JB Q hm;refine fG 1 Q Q Q (aE 2 Q (gI (oW 1 Q (WN [0,1,19] Q Q ?_))));refine TC true Q (λ_=>?_) (λh=>by cases h);refine aH 2 Q ?_;cases hm;exact⟨_,[0,1,2,3,4,5,6,7,8,9],res Q,by decide,kB Q,Q,Q⟩
 replace hm:=JA Q hm;refine fG 1 Q Q Q (aE 2 Q (gI (oW 1 Q (WN [0,1,19] Q Q (TC false Q (λh=>by cases h) (λ_=>bD 7 Q (bJ hm (λ(at29,c30,c31,c32,c33,c34,c35,c36,c37,c38,b39,b40)=>([(4,.d (.int .i64 at29))])) (λ(at29,c30,c31,c32,c33,c34,c35,c36,c37,c38,b39,b40)=>([(1,.box 26 [.d (.sl 4 (c30.map Ac.enc))]),(2,.box 30 [.d (.sl 1 (c31.map (D.int .i64)))]),(3,.box 4 [.d (.bool (c32))]),(4,.box 31 [.d (.int .i64 c33)]),(5,.box 70 [.d (.sl 1 (c34.map D.str)),.d (.int .i64 c35),.d (.sl 6 (c36.map Af.enc)),.d (.sl 1 (c37.map (λ(l:List Bool)=>D.sl 1 (l.map D.bool)))),.d (.int .i64 c38),.msl 8 6 0 b40.length,.mmap 6]),(6,.map 9 4 (aT D.str D.bool b39)),(8,.flat 66 6 (b40.map Ae.enc))])) [4] [0,1] [0,1,2,3,4,5,6,7,8,9] Q (kB Q) Q Q Q Q Q (λs z41 hm hz41=>?_))))))));obtain⟨at29,c30,c31,c32,c33,c34,c35,c36,c37,c38,b39,b40⟩:=s;refine WN [0,1,4] Q Q (bS 11 Q (bL hm Q (λh42 hm=>?_) (λh42 hm=>?_)))
 ·refine bD 2 Q (bN hm (λ(c43,c44,c45,c46,c47,c48,c49,c50,c51,m52,b53)=>[]) (λ(c43,c44,c45,c46,c47,c48,c49,c50,c51,m52,b53)=>([(1,.box 26 [.d (.sl 4 (c43.map Ac.enc))]),(2,.box 30 [.d (.sl 1 (c44.map (D.int .i64)))]),(3,.box 4 [.d (.bool (c45))]),(4,.box 31 [.d (.int .i64 c46)]),(5,.box 70 [.d (.sl 1 (c47.map D.str)),.d (.int .i64 c48),.d (.sl 6 (c49.map Af.enc)),.d (.sl 1 (c50.map (λ(l:List Bool)=>D.sl 1 (l.map D.bool)))),.d (.int .i64 c51),.msl 8 6 0 b53.length,.mmap 6]),(6,.map 9 4 (aT D.str D.bool m52)),(8,.flat 66 6 (b53.map Ae.enc))])) [] [0,1,4] Q (λz54 hm hz54=>?_) (λj hm=>?_))
  ·refine aQ 7 Q (VE hm λe55 he55 hm=>SX Q Q (eY TK Q Q Q Q he55 Q) (SX Q Q (mZ TK Q Q Q Q he55.2 Q) (dF 10 Q Q nW Q (dC 10 [some 1,some 1,none,none,none,none] Q Q (aJ 3 Q (WN [0,1,4,5] Q Q (bD 1 Q (bM follows ?_))))))));iterate 7 (refine DA [0,1,2,3,4,5,6,7,8,9,10] TK Q ?_)
   refine DT ?_ (by kernel_rfl);refine aJ 2 Q (bL hm Q (λh56 hm=>?_) (λh56 hm=>?_))
   ·refine aH 3 Q (IE hm λv57 hm hz=>?_);rw [hz54 _ hz] at hm;refine WR (IE hm λv58 hm hz=>?_);rw [hz41 _ hz] at hm;refine WR (bK 1 Q ?_);cases hm;exact⟨_,[0,1,2,3,4,5,6,7,8,9],res Q,by decide,kB Q,Q,Q⟩
   refine aN 7 Q (SX Q Q (aO TK Q Q Q) (aJ 3 Q (WN [0,1,4,5,46,47,48] Q Q (bD 1 Q (bJ hm (λ(x72,c73,c74,c75,c76,c77,c78,c79,c80,c81,b82,b83)=>([(48,.d (.int .i64 x72))])) (λ(x72,c73,c74,c75,c76,c77,c78,c79,c80,c81,b82,b83)=>([(1,.box 26 [.d (.sl 4 (c73.map Ac.enc))]),(2,.box 30 [.d (.sl 1 (c74.map (D.int .i64)))]),(3,.box 4 [.d (.bool (c75))]),(4,.box 31 [.d (.int .i64 c76)]),(5,.box 70 [.d (.sl 1 (c77.map D.str)),.d (.int .i64 c78),.d (.sl 6 (c79.map Af.enc)),.d (.sl 1 (c80.map (λ(l:List Bool)=>D.sl 1 (l.map D.bool)))),.d (.int .i64 c81),.msl 8 6 0 b83.length,.mmap 6]),(6,.map 9 4 (aT D.str D.bool b82)),(8,.flat 66 6 (b83.map Ae.enc))])) [48] [0,1,4,5,46,47] [0,1,2,3,4,5,6,7,8,9,10] Q (kB Q) Q Q Q Q Q (λs z84 hm hz84=>?_))))));obtain⟨x72,c73,c74,c75,c76,c77,c78,c79,c80,c81,b82,b83⟩:=s;refine WN [0,1,4,5,46,47,48] Q Q (bS 5 Q (bL hm Q (λh85 hm=>?_) (λh85 hm=>?_)))
   ·refine aN 6 Q (VE hm λe86 he86 hm=>SX Q Q (dH TK Q Q Q Q he86) (aJ 5 Q (gU (bM follows (DA [9] TK Q ?_)))));iterate 2 (refine DA [] TK Q ?_)
    refine DA [5] TK Q (DA [] TK Q (DA [10] TK Q (DA [] TK Q (yA [] hm (mR ·) Q Q Q Q λr87 hm=>xT [11] _ (.mptr 11 0 0 0) Q (jW Q) Q (tF Q Q bY Q Q) ?_))));refine DT ?_ (by kernel_rfl);refine aJ 3 Q (WN [0,1,4,5,6,8,46,47,48] Q Q (bD 1 Q (bM follows ?_)));iterate 5 (refine DA [0,1,2,3,4,5,6,7,8,9,10,11] TK Q ?_)
    refine xZ [0,1,2,3,4,5,6,7,8,9,10,11] hm (iQ ·) Q Q Q Q λr88 hm=>GE hm λg89 hm=>DX [0,1,2,3,4,5,6,7,8,9,10,11] Q Q (yF qP D.bool _ _ false Q qDD iE Q Q Q Q g89) ?_;refine DT ?_ (by kernel_rfl);refine aJ 2 Q (bR hm Q (λh90 hm=>?_) (λh90 hm=>?_))
    ·exact bD 4 Q (WN [0,1,4,5,46,47,48] Q Q (aN 1 Q (GE hm λg91 hm=>SX Q Q (bW Q Q Q Q g91) (aE 2 Q (e_l [0,1,2,3,4,5,6,7,8,9,10] hm Q (kB Q) Q)))))
    refine bD 12 Q (WN [0,1,4,5,6,8,46,47,48,73] Q Q (bL hm Q (λh92 hm=>?_) (λh92 hm=>?_)))
    ·refine oI (fG 1 Q Q Q (aE 2 Q ?_));obtain⟨⟨b104,u93,u94,u95,u96,u97,u98,u99,u100,u101,u102,u103⟩,hr105,hm⟩:=BI hm;refine lO 0 [0,1,2,3,4,5,6,7,8,9] (λ_=>false) Q Q Q Q (by decide) Q Q Q Q (hY hr105) Q Q Q ?_;cases b104
     ·replace hm:=JB Q hm;refine gI (oW 1 Q (WN [] Q Q (aH 4 Q (IE hm λv106 hm hz=>?_))));rw [hz84 _ hz] at hm;refine WR (bK 2 Q (IE hm λv107 hm hz=>?_));rw [hz54 _ hz] at hm;refine WR (IE hm λv108 hm hz=>?_);rw [hz41 _ hz] at hm;refine WR (bK 1 Q ?_);cases hm;exact⟨_,[0,1,2,3,4,5,6,7,8,9],res Q,by decide,kB Q,Q,Q⟩
     replace hm:=JA Q hm;refine gI (oW 1 Q (WN [] Q Q (aH 4 Q (IE hm λv109 hm hz=>?_))));rw [hz84 _ hz] at hm;refine WR (bK 2 Q (IE hm λv110 hm hz=>?_));rw [hz54 _ hz] at hm;refine WR (IE hm λv111 hm hz=>?_);rw [hz41 _ hz] at hm;refine WR (bK 1 Q ?_);cases hm;exact⟨_,[0,1,2,3,4,5,6,7,8,9],res Q,by decide,kB Q,Q,Q⟩
    refine aN 9 Q (GE hm λg112 hm=>SX Q Q (bW Q Q Q Q g112) (BE hm λr113 hr113 hm=>?_));refine eD [5,8,6] (λj=>Nat.beq j 1) Q Q Q (by decide) Q Q Q Q (cW hr113) Q Q Q ?_;refine aJ 2 Q (WN [0,1,4,5,46,47,48] Q Q (oI (fG 7 Q Q Q (aG 6 Q (GE hm λg114 hm=>SX Q Q (bW Q Q Q Q g114) (aE 1 Q ?_))))));obtain⟨⟨b126,u115,u116,u117,u118,u119,u120,u121,u122,u123,u124,u125⟩,hr127,hm⟩:=BI hm;refine lO 0 [0,1,2,3,4,5,6,7,8,9] (λ_=>false) Q Q Q Q (by decide) Q Q Q Q (hY hr127) Q Q Q ?_;cases b126
    ·replace hm:=JB Q hm;refine fG 1 Q Q Q (aE 2 Q (gI (oW 1 Q (WN [0,1,4,5,46,47,48,92] Q Q ?_))));refine TC true Q (λ_=>?_) (λh=>by cases h);refine aH 3 Q (IE hm λv128 hm hz=>?_);rw [hz84 _ hz] at hm;refine WR (bK 2 Q (IE hm λv129 hm hz=>?_));rw [hz54 _ hz] at hm;refine WR (IE hm λv130 hm hz=>?_);rw [hz41 _ hz] at hm;refine WR (bK 1 Q ?_);cases hm;exact⟨_,[0,1,2,3,4,5,6,7,8,9],res Q,by decide,kB Q,Q,Q⟩
    replace hm:=JA Q hm;exact fG 1 Q Q Q (aE 2 Q (gI (oW 1 Q (WN [0,1,4,5,46,47,48,92] Q Q (TC false Q (λh=>by cases h) (λ_=>aN 4 Q (GE hm λg131 hm=>SX Q Q (bW Q Q Q Q g131) (aE 2 Q (e_l [0,1,2,3,4,5,6,7,8,9,10] hm Q (kB Q) Q)))))))))
   refine aH 2 Q (IE hm λv132 hm hz=>?_);rw [hz84 _ hz] at hm;exact WX (bK 2 Q (e_l [0,1,2,3,4,5,6,7,8,9] hm Q (kB Q) Q))
  obtain⟨c43,c44,c45,c46,c47,c48,c49,c50,c51,m52,b53⟩:=j;exact WN [0,1,4] Q Q (aN 2 Q (GE hm λg133 hm=>SX Q Q (bW Q Q Q Q g133) (aE 2 Q (e_l [0,1,2,3,4,5,6,7,8,9] hm Q (kB Q) Q))))
 refine aH 2 Q (IE hm λv134 hm hz=>?_);rw [hz41 _ hz] at hm;refine WX (bK 1 Q ?_);cases hm;exact⟨_,[0,1,2,3,4,5,6,7,8,9],res Q,by decide,kB Q,Q,Q⟩
theorem qY {p0:Program} {p1:(List Ac)} {p2:(List (List Bool))} {p3:Int} {r0:(List Int)} {r1:Bool} {r2:Int} (hm:eG p0 p1 p2 p3=some (r0,r1,r2)):Ret TP 10 [] (λ_=>false) ([p0.enc,.sl 4 (p1.map Ac.enc),.sl 1 (p2.map (λ(l:List Bool)=>D.sl 1 (l.map D.bool))),.int .i64 p3].map .d) (.tup ([.sl 1 (r0.map (D.int .i64)),.bool (r1),.int .i64 r2].map .d)) []:=by
 refine pY (bB Q) func10 Q ntmps10 Q Q (λwX gX=>?_);unfold eG at hm;refine gJ [0,1,2,3] Q Q (oQ (aQ 1 Q (cO 0 Q Q Q (cO 1 Q Q Q (dF 2 Q Q zero30 Q (dC 2 [some 1] Q Q (dF 3 Q Q iE Q (dF 4 Q Q qBG Q (aE 1 Q (gJ [2,3,4,5,8,9,10] Q Q (oQ (aQ 4 Q ?_))))))))))));obtain⟨⟨o1,r2⟩,hr2,hm⟩:=BI hm
 cases o1 with
 | none=>
  dsimp only at hm;refine lI Q Q Q (kA hr2) Q Q (pT 19 (.tup [.d .nilptr,.d (.int .i64 r2)]) Q Q (aG 3 Q (dF 5 Q Q qBF Q (aE 3 Q (gJ [5,8,9,10,11,12] Q Q (oQ (bS 5 Q (iB hm Q (λh4 hm=>?_) (λh4 hm=>?_)))))))))
  ·refine aN 3 Q (dC 2 [some 1] Q Q (aJ 4 Q (WN [8,9,10] Q Q (aH 1 Q (WR ?_)))));obtain⟨rfl,hmj0⟩:=Prod.mk.inj (Option.some.inj hm);obtain⟨rfl,rfl⟩:=Prod.mk.inj (hmj0);exact⟨_,.mk _ (.cons (.one (TK.lay Q) Q Q Q) (.cons (.one (TK.lay Q) Q Q Q) (.cons (.one (TK.lay Q) Q Q Q) .nil))) Q,(.cons (.d _) (.refl _) (.cons (.d _) (.refl _) (.cons (.d _) (.refl _) .nil)))⟩
  refine aH 1 Q (gJ [5,8,9,10,11] Q Q (uJ (aQ 2 Q ?_)));cases hm
 | some q3=>
  dsimp only at hm;refine lI Q Q Q (jZ hr2) Q Q (pT 19 (.tup [.mptr 5 0 0 0,.d (.int .i64 r2)]) Q Q (aG 3 Q (dF 7 Q Q qBF Q (aG 2 Q (jU (f:=Ae.enc) 5 5 8 66 6 Q Q Q (aE 1 Q (gJ [5,8,9,10,11,12] Q Q (oQ (bS 5 Q (iB hm Q (λh5 hm=>?_) (λh5 hm=>?_)))))))))))
  ·refine aN 3 Q (dC 2 [some 1] Q Q (aJ 4 Q (WN [8,9,10] Q Q (aH 1 Q (WR ?_)))));obtain⟨rfl,hmj0⟩:=Prod.mk.inj (Option.some.inj hm);obtain⟨rfl,rfl⟩:=Prod.mk.inj (hmj0);exact⟨_,.mk _ (.cons (.one (TK.lay Q) Q Q Q) (.cons (.one (TK.lay Q) Q Q Q) (.cons (.one (TK.lay Q) Q Q Q) .nil))) Q,(.cons (.d _) (.refl _) (.cons (.d _) (.refl _) (.cons (.d _) (.refl _) .nil)))⟩
  refine aH 1 Q (gJ [5,8,9,10,11] Q Q (uJ (aQ 2 Q ?_)));refine eD [5,8,6] (λ_=>false) Q Q Q (by decide) Q Q Q Q eI Q Q Q ?_;refine pT 26 (.fnc 38 [.mptr 9 0 0 0]) Q Q (aE 1 Q (qBZ [5,8,9,10,11,26] Q Q ?_));obtain⟨⟨b17,u6,u7,u8,u9,u10,u11,u12,u13,u14,u15,u16⟩,hr18,hm⟩:=BI hm;cases b17
  ·replace hm:=JB Q hm;refine nS (b:=false) [11,1,2,3,4,5,6,7,8,9] (λj=>Nat.beq j 8) Q Q Q (by decide) Q Q Q Q Q Q (gM gB hr18) Q Q Q Q (λh=>by cases h) (λ_=>?_);obtain⟨rfl,hmj0⟩:=Prod.mk.inj (Option.some.inj hm);obtain⟨rfl,rfl⟩:=Prod.mk.inj (hmj0);exact⟨_,.mk _ (.cons (.one (TK.lay Q) Q Q Q) (.cons (.one (TK.lay Q) Q Q Q) (.cons (.one (TK.lay Q) Q Q Q) .nil))) Q,(.cons (.d _) (.refl _) (.cons (.d _) (.refl _) (.cons (.d _) (.refl _) .nil)))⟩
  replace hm:=JA Q hm;refine nS (b:=true) [11,1,2,3,4,5,6,7,8,9] (λj=>Nat.beq j 8) Q Q Q (by decide) Q Q Q Q Q Q (gM gB hr18) Q Q Q Q (λ_ wY gY dY=>?_) (λh=>by cases h);refine mM (dQ Q (aG 1 Q (dC 2 [some 1] Q Q (aE 3 Q (WT (vZ ?_))))));refine⟨?_,Q⟩;obtain⟨rfl,hmj0⟩:=Prod.mk.inj (Option.some.inj hm);obtain⟨rfl,rfl⟩:=Prod.mk.inj (hmj0);exact⟨_,.mk _ (.cons (.one (TK.lay Q) Q Q Q) (.cons (.one (TK.lay Q) Q Q Q) (.cons (.one (TK.lay Q) Q Q Q) .nil))) Q,(.cons (.d _) (.refl _) (.cons (.d _) (.refl _) (.cons (.d _) (.refl _) .nil)))⟩
theorem hU {p0:Program} {p1:(List Ac)} {p2:(List (List Bool))} {p3:Int} {r0:(List Int)} {r1:Bool} {r2:Int} (hm:eG p0 p1 p2 p3=some (r0,r1,r2)):RetT TP 10 [p0.enc,.sl 4 (p1.map Ac.enc),.sl 1 (p2.map (λ(l:List Bool)=>D.sl 1 (l.map D.bool))),.int .i64 p3] [.sl 1 (r0.map (D.int .i64)),.bool (r1),.int .i64 r2]:=.of (mv:=λ_=>false) (qY hm)
theorem fJ {s0:Int} {s1:Int} {s2:(List BA)} {s3:Int} {s4:(List Af)} {s5:(List (List Bool))} {s6:Int} {s7:List (BA×Bool)} {s8:List Ae} {u0:Int} {u1:Int} {u2:(List BA)} {u3:Int} {u4:(List Af)} {u5:(List (List Bool))} {u6:Int} {u7:List (BA×Bool)} {u8:List Ae} {i0:Int} {i1:Int} {b:Bool} (hm:eM s0 s1 s2 s3 s4 s5 s6 s7 s8 i0 i1=some (b,u0,u1,u2,u3,u4,u5,u6,u7,u8)):qBC TP [.lp .ready none (gH Tryd.f13).1 (gH Tryd.f13).2.1 (gH Tryd.f13).2.2 34 [(6,.mptr 1 0 0 0),(7,.mptr 2 0 0 0),(8,.mptr 3 0 0 0),(23,.fnc 38 [.mptr 6 0 0 0])],.box 3 [.d (.int .i64 s0)],.box 31 [.d (.int .i64 s1)],.box 70 [.d (.sl 1 (s2.map D.str)),.d (.int .i64 s3),.d (.sl 6 (s4.map Af.enc)),.d (.sl 1 (s5.map (λ(l:List Bool)=>D.sl 1 (l.map D.bool)))),.d (.int .i64 s6),.msl 5 6 0 s8.length,.mmap 4],.map 9 4 (aT D.str D.bool s7),.flat 66 6 (s8.map Ae.enc),.box 58 [.mptr 3 0 0 0]] (λ_=>false) [.d (.int .i64 i0),.d (.int .i64 i1)] (.d (.bool b)) [mJ b (gH Tryd.f13).1 (gH Tryd.f13).2.1 (gH Tryd.f13).2.2 34 [(6,.mptr 1 0 0 0),(7,.mptr 2 0 0 0),(8,.mptr 3 0 0 0),(23,.fnc 38 [.mptr 6 0 0 0])],.box 3 [.d (.int .i64 u0)],.box 31 [.d (.int .i64 u1)],.box 70 [.d (.sl 1 (u2.map D.str)),.d (.int .i64 u3),.d (.sl 6 (u4.map Af.enc)),.d (.sl 1 (u5.map (λ(l:List Bool)=>D.sl 1 (l.map D.bool)))),.d (.int .i64 u6),.msl 5 6 0 u8.length,.mmap 4],.map 9 4 (aT D.str D.bool u7),.flat 66 6 (u8.map Ae.enc),.box 58 [.mptr 3 0 0 0]]:=by
 refine sH Q Q Q Q (λwX gX lX=>?_);unfold eM at hm;refine dQ Q (aE 2 Q ?_);refine⟨Q,Q,?_⟩;refine zB (mM (dQ Q (aE 3 Q (WT (qGP hm Q (λh1 hm=>?_) (λh1 hm=>?_))))))
 ·refine mM (dQ Q (aE 4 Q (WT (vZ (WB ?_)))));cases hm;exact uQ [0,1,2,3,4,5,6] (.inr ⟨Q,Q⟩) Q (kB Q) Q Q
 refine xP (WK ?_);cases hm;exact uQ [0,1,2,3,4,5,6] (.inl ⟨Q,Q⟩) Q (kB Q) Q Q
theorem gC {ps:Array Tmp} {asg body:Code} {n:Nat} {Y:Int->Int->((List BA))->Int->((List Af))->((List (List Bool)))->Int->(List (BA×Bool))->(List Ae)->Int->Int->Option (Bool×Int×Int×((List BA))×Int×((List Af))×((List (List Bool)))×Int×(List (BA×Bool))×(List Ae))} (hY:∀ {s0:Int} {s1:Int} {s2:(List BA)} {s3:Int} {s4:(List Af)} {s5:(List (List Bool))} {s6:Int} {s7:List (BA×Bool)} {s8:List Ae} {u0:Int} {u1:Int} {u2:(List BA)} {u3:Int} {u4:(List Af)} {u5:(List (List Bool))} {u6:Int} {u7:List (BA×Bool)} {u8:List Ae} {i0:Int} {i1:Int} {b:Bool},Y s0 s1 s2 s3 s4 s5 s6 s7 s8 i0 i1=some (b,u0,u1,u2,u3,u4,u5,u6,u7,u8)->qBC TP [.lp .ready none ps asg body n [(6,.mptr 1 0 0 0),(7,.mptr 2 0 0 0),(8,.mptr 3 0 0 0),(23,.fnc 38 [.mptr 6 0 0 0])],.box 3 [.d (.int .i64 s0)],.box 31 [.d (.int .i64 s1)],.box 70 [.d (.sl 1 (s2.map D.str)),.d (.int .i64 s3),.d (.sl 6 (s4.map Af.enc)),.d (.sl 1 (s5.map (λ(l:List Bool)=>D.sl 1 (l.map D.bool)))),.d (.int .i64 s6),.msl 5 6 0 s8.length,.mmap 4],.map 9 4 (aT D.str D.bool s7),.flat 66 6 (s8.map Ae.enc),.box 58 [.mptr 3 0 0 0]] (λ_=>false) [.d (.int .i64 i0),.d (.int .i64 i1)] (.d (.bool b)) [mJ b ps asg body n [(6,.mptr 1 0 0 0),(7,.mptr 2 0 0 0),(8,.mptr 3 0 0 0),(23,.fnc 38 [.mptr 6 0 0 0])],.box 3 [.d (.int .i64 u0)],.box 31 [.d (.int .i64 u1)],.box 70 [.d (.sl 1 (u2.map D.str)),.d (.int .i64 u3),.d (.sl 6 (u4.map Af.enc)),.d (.sl 1 (u5.map (λ(l:List Bool)=>D.sl 1 (l.map D.bool)))),.d (.int .i64 u6),.msl 5 6 0 u8.length,.mmap 4],.map 9 4 (aT D.str D.bool u7),.flat 66 6 (u8.map Ae.enc),.box 58 [.mptr 3 0 0 0]]) {s0:Int} {s1:Int} {s2:(List BA)} {s3:Int} {s4:(List Af)} {s5:(List (List Bool))} {s6:Int} {s7:List (BA×Bool)} {s8:List Ae} {u0:Int} {u1:Int} {u2:(List BA)} {u3:Int} {u4:(List Af)} {u5:(List (List Bool))} {u6:Int} {u7:List (BA×Bool)} {u8:List Ae} {b:Bool} (hm:eW Y s0 s1 s2 s3 s4 s5 s6 s7 s8=some (b,u0,u1,u2,u3,u4,u5,u6,u7,u8)):Ret TP 38 [.lp .ready none ps asg body n [(6,.mptr 1 0 0 0),(7,.mptr 2 0 0 0),(8,.mptr 3 0 0 0),(23,.fnc 38 [.mptr 6 0 0 0])],.box 3 [.d (.int .i64 s0)],.box 31 [.d (.int .i64 s1)],.box 70 [.d (.sl 1 (s2.map D.str)),.d (.int .i64 s3),.d (.sl 6 (s4.map Af.enc)),.d (.sl 1 (s5.map (λ(l:List Bool)=>D.sl 1 (l.map D.bool)))),.d (.int .i64 s6),.msl 5 6 0 s8.length,.mmap 4],.map 9 4 (aT D.str D.bool s7),.flat 66 6 (s8.map Ae.enc),.box 58 [.mptr 3 0 0 0]] (λj=>Nat.beq j 5) [.yld 0,.mptr 6 0 0 0] (.tup []) [mJ b ps asg body n [(6,.mptr 1 0 0 0),(7,.mptr 2 0 0 0),(8,.mptr 3 0 0 0),(23,.fnc 38 [.mptr 6 0 0 0])],.box 3 [.d (.int .i64 u0)],.box 31 [.d (.int .i64 u1)],.box 70 [.d (.sl 1 (u2.map D.str)),.d (.int .i64 u3),.d (.sl 6 (u4.map Af.enc)),.d (.sl 1 (u5.map (λ(l:List Bool)=>D.sl 1 (l.map D.bool)))),.d (.int .i64 u6),.msl 5 6 0 u8.length,.mmap 4],.map 9 4 (aT D.str D.bool u7),.flat 66 6 (u8.map Ae.enc),.box 58 [.mptr 3 0 0 0]]:=by
 refine cE (bB Q) func38 Q ntmps38 Q Q (λwX gX=>?_);unfold eW at hm;refine WN [0,1] Q Q (aQ 5 Q (c_D hm (kS ·) Q Q Q Q λr1 hm=>dF 7 Q Q bY Q (dC 7 [some 1,some 1,none] Q Q (aJ 3 Q (WN [0,1,3] Q Q (aN 3 Q (BE hm λr2 hr2 hm=>?_)))))));refine eD [3,5,4] (λj=>Nat.beq j 1) Q Q Q (by decide) Q Q Q Q (cW hr2) Q Q Q ?_;refine aJ 2 Q (WN [0,1] Q Q (bD 1 Q (oI (fG 1 Q Q Q (aE 2 Q ?_)))));obtain⟨⟨b12,u3,u4,u5,u6,u7,u8,u9,u10,u11⟩,hr13,hm⟩:=BI hm;refine lO 0 [0,1,2,3,4,5,6] (λ_=>false) Q Q Q Q (by decide) Q Q Q Q (hY hr13) Q Q Q ?_;cases b12
 ·replace hm:=JB Q hm;refine fG 1 Q Q Q (aE 2 Q (gI (oW 1 Q (WN [0,1,19] Q Q ?_))));refine TC true Q (λ_=>?_) (λh=>by cases h);refine aH 2 Q ?_;cases hm;exact⟨_,[0,1,2,3,4,5,6],res Q,by decide,kB Q,Q,Q⟩
 replace hm:=JA Q hm;refine fG 1 Q Q Q (aE 2 Q (gI (oW 1 Q (WN [0,1,19] Q Q (TC false Q (λh=>by cases h) (λ_=>bD 7 Q (bJ hm (λ(at25,c26,c27,c28,c29,c30,c31,c32,b33,b34)=>([(4,.d (.int .i64 at25))])) (λ(at25,c26,c27,c28,c29,c30,c31,c32,b33,b34)=>([(1,.box 3 [.d (.int .i64 c26)]),(2,.box 31 [.d (.int .i64 c27)]),(3,.box 70 [.d (.sl 1 (c28.map D.str)),.d (.int .i64 c29),.d (.sl 6 (c30.map Af.enc)),.d (.sl 1 (c31.map (λ(l:List Bool)=>D.sl 1 (l.map D.bool)))),.d (.int .i64 c32),.msl 5 6 0 b34.length,.mmap 4]),(4,.map 9 4 (aT D.str D.bool b33)),(5,.flat 66 6 (b34.map Ae.enc))])) [4] [0,1] [0,1,2,3,4,5,6] Q (kB Q) Q Q Q Q Q (λs z35 hm hz35=>?_))))))));obtain⟨at25,c26,c27,c28,c29,c30,c31,c32,b33,b34⟩:=s;refine WN [0,1,4] Q Q (bS 11 Q (bL hm Q (λh36 hm=>?_) (λh36 hm=>?_)))
 ·refine bD 2 Q (bN hm (λ(c37,c38,c39,c40,c41,c42,c43,m44,b45)=>[]) (λ(c37,c38,c39,c40,c41,c42,c43,m44,b45)=>([(1,.box 3 [.d (.int .i64 c37)]),(2,.box 31 [.d (.int .i64 c38)]),(3,.box 70 [.d (.sl 1 (c39.map D.str)),.d (.int .i64 c40),.d (.sl 6 (c41.map Af.enc)),.d (.sl 1 (c42.map (λ(l:List Bool)=>D.sl 1 (l.map D.bool)))),.d (.int .i64 c43),.msl 5 6 0 b45.length,.mmap 4]),(4,.map 9 4 (aT D.str D.bool m44)),(5,.flat 66 6 (b45.map Ae.enc))])) [] [0,1,4] Q (λz46 hm hz46=>?_) (λj hm=>?_))
  ·refine aQ 7 Q (VE hm λe47 he47 hm=>SX Q Q (eY TK Q Q Q Q he47 Q) (SX Q Q (mZ TK Q Q Q Q he47.2 Q) (dF 7 Q Q nW Q (dC 7 [some 1,some 1,none,none,none,none] Q Q (aJ 3 Q (WN [0,1,4,5] Q Q (bD 1 Q (bM follows ?_))))))));iterate 7 (refine DA [0,1,2,3,4,5,6,7] TK Q ?_)
   refine DT ?_ (by kernel_rfl);refine aJ 2 Q (bL hm Q (λh48 hm=>?_) (λh48 hm=>?_))
   ·refine aH 3 Q (IE hm λv49 hm hz=>?_);rw [hz46 _ hz] at hm;refine WR (IE hm λv50 hm hz=>?_);rw [hz35 _ hz] at hm;refine WR (bK 1 Q ?_);cases hm;exact⟨_,[0,1,2,3,4,5,6],res Q,by decide,kB Q,Q,Q⟩
   refine aN 7 Q (SX Q Q (aO TK Q Q Q) (aJ 3 Q (WN [0,1,4,5,46,47,48] Q Q (bD 1 Q (bJ hm (λ(x62,c63,c64,c65,c66,c67,c68,c69,b70,b71)=>([(48,.d (.int .i64 x62))])) (λ(x62,c63,c64,c65,c66,c67,c68,c69,b70,b71)=>([(1,.box 3 [.d (.int .i64 c63)]),(2,.box 31 [.d (.int .i64 c64)]),(3,.box 70 [.d (.sl 1 (c65.map D.str)),.d (.int .i64 c66),.d (.sl 6 (c67.map Af.enc)),.d (.sl 1 (c68.map (λ(l:List Bool)=>D.sl 1 (l.map D.bool)))),.d (.int .i64 c69),.msl 5 6 0 b71.length,.mmap 4]),(4,.map 9 4 (aT D.str D.bool b70)),(5,.flat 66 6 (b71.map Ae.enc))])) [48] [0,1,4,5,46,47] [0,1,2,3,4,5,6,7] Q (kB Q) Q Q Q Q Q (λs z72 hm hz72=>?_))))));obtain⟨x62,c63,c64,c65,c66,c67,c68,c69,b70,b71⟩:=s;refine WN [0,1,4,5,46,47,48] Q Q (bS 5 Q (bL hm Q (λh73 hm=>?_) (λh73 hm=>?_)))
   ·refine aN 6 Q (VE hm λe74 he74 hm=>SX Q Q (dH TK Q Q Q Q he74) (aJ 5 Q (gU (bM follows (DA [6] TK Q ?_)))));iterate 2 (refine DA [] TK Q ?_)
    refine DA [3] TK Q (DA [] TK Q (DA [7] TK Q (DA [] TK Q (yA [] hm (mR ·) Q Q Q Q λr75 hm=>xT [8] _ (.mptr 8 0 0 0) Q (jW Q) Q (tF Q Q bY Q Q) ?_))));refine DT ?_ (by kernel_rfl);refine aJ 3 Q (WN [0,1,4,5,6,8,46,47,48] Q Q (bD 1 Q (bM follows ?_)));iterate 5 (refine DA [0,1,2,3,4,5,6,7,8] TK Q ?_)
    refine xZ [0,1,2,3,4,5,6,7,8] hm (iQ ·) Q Q Q Q λr76 hm=>GE hm λg77 hm=>DX [0,1,2,3,4,5,6,7,8] Q Q (yF qP D.bool _ _ false Q qDD iE Q Q Q Q g77) ?_;refine DT ?_ (by kernel_rfl);refine aJ 2 Q (bR hm Q (λh78 hm=>?_) (λh78 hm=>?_))
    ·exact bD 4 Q (WN [0,1,4,5,46,47,48] Q Q (aN 1 Q (GE hm λg79 hm=>SX Q Q (bW Q Q Q Q g79) (aE 2 Q (e_l [0,1,2,3,4,5,6,7] hm Q (kB Q) Q)))))
    refine bD 12 Q (WN [0,1,4,5,6,8,46,47,48,73] Q Q (bL hm Q (λh80 hm=>?_) (λh80 hm=>?_)))
    ·refine oI (fG 1 Q Q Q (aE 2 Q ?_));obtain⟨⟨b90,u81,u82,u83,u84,u85,u86,u87,u88,u89⟩,hr91,hm⟩:=BI hm;refine lO 0 [0,1,2,3,4,5,6] (λ_=>false) Q Q Q Q (by decide) Q Q Q Q (hY hr91) Q Q Q ?_;cases b90
     ·replace hm:=JB Q hm;refine gI (oW 1 Q (WN [] Q Q (aH 4 Q (IE hm λv92 hm hz=>?_))));rw [hz72 _ hz] at hm;refine WR (bK 2 Q (IE hm λv93 hm hz=>?_));rw [hz46 _ hz] at hm;refine WR (IE hm λv94 hm hz=>?_);rw [hz35 _ hz] at hm;refine WR (bK 1 Q ?_);cases hm;exact⟨_,[0,1,2,3,4,5,6],res Q,by decide,kB Q,Q,Q⟩
     replace hm:=JA Q hm;refine gI (oW 1 Q (WN [] Q Q (aH 4 Q (IE hm λv95 hm hz=>?_))));rw [hz72 _ hz] at hm;refine WR (bK 2 Q (IE hm λv96 hm hz=>?_));rw [hz46 _ hz] at hm;refine WR (IE hm λv97 hm hz=>?_);rw [hz35 _ hz] at hm;refine WR (bK 1 Q ?_);cases hm;exact⟨_,[0,1,2,3,4,5,6],res Q,by decide,kB Q,Q,Q⟩
    refine aN 9 Q (GE hm λg98 hm=>SX Q Q (bW Q Q Q Q g98) (BE hm λr99 hr99 hm=>?_));refine eD [3,5,4] (λj=>Nat.beq j 1) Q Q Q (by decide) Q Q Q Q (cW hr99) Q Q Q ?_;refine aJ 2 Q (WN [0,1,4,5,46,47,48] Q Q (oI (fG 7 Q Q Q (aG 6 Q (GE hm λg100 hm=>SX Q Q (bW Q Q Q Q g100) (aE 1 Q ?_))))));obtain⟨⟨b110,u101,u102,u103,u104,u105,u106,u107,u108,u109⟩,hr111,hm⟩:=BI hm;refine lO 0 [0,1,2,3,4,5,6] (λ_=>false) Q Q Q Q (by decide) Q Q Q Q (hY hr111) Q Q Q ?_;cases b110
    ·replace hm:=JB Q hm;refine fG 1 Q Q Q (aE 2 Q (gI (oW 1 Q (WN [0,1,4,5,46,47,48,92] Q Q ?_))));refine TC true Q (λ_=>?_) (λh=>by cases h);refine aH 3 Q (IE hm λv112 hm hz=>?_);rw [hz72 _ hz] at hm;refine WR (bK 2 Q (IE hm λv113 hm hz=>?_));rw [hz46 _ hz] at hm;refine WR (IE hm λv114 hm hz=>?_);rw [hz35 _ hz] at hm;refine WR (bK 1 Q ?_);cases hm;exact⟨_,[0,1,2,3,4,5,6],res Q,by decide,kB Q,Q,Q⟩
    replace hm:=JA Q hm;exact fG 1 Q Q Q (aE 2 Q (gI (oW 1 Q (WN [0,1,4,5,46,47,48,92] Q Q (TC false Q (λh=>by cases h) (λ_=>aN 4 Q (GE hm λg115 hm=>SX Q Q (bW Q Q Q Q g115) (aE 2 Q (e_l [0,1,2,3,4,5,6,7] hm Q (kB Q) Q)))))))))
   refine aH 2 Q (IE hm λv116 hm hz=>?_);rw [hz72 _ hz] at hm;exact WX (bK 2 Q (e_l [0,1,2,3,4,5,6] hm Q (kB Q) Q))
  obtain⟨c37,c38,c39,c40,c41,c42,c43,m44,b45⟩:=j;exact WN [0,1,4] Q Q (aN 2 Q (GE hm λg117 hm=>SX Q Q (bW Q Q Q Q g117) (aE 2 Q (e_l [0,1,2,3,4,5,6] hm Q (kB Q) Q))))
 refine aH 2 Q (IE hm λv118 hm hz=>?_);rw [hz35 _ hz] at hm;refine WX (bK 1 Q ?_);cases hm;exact⟨_,[0,1,2,3,4,5,6],res Q,by decide,kB Q,Q,Q⟩
theorem oY {p0:Program} {p1:(List (List Bool))} {p2:Int} {r0:Int} {r1:Int} (hm:fR p0 p1 p2=some (r0,r1)):Ret TP 13 [] (λ_=>false) ([p0.enc,.sl 1 (p1.map (λ(l:List Bool)=>D.sl 1 (l.map D.bool))),.int .i64 p2].map .d) (.tup ([.int .i64 r0,.int .i64 r1].map .d)) []:=by
 refine pY (bB Q) func13 Q ntmps13 Q Q (λwX gX=>?_);unfold fR at hm;refine gJ [0,1,2] Q Q (oQ (aQ 1 Q (cO 0 Q Q Q (dF 1 Q Q iS Q (dF 2 Q Q qBG Q (aE 1 Q (gJ [1,2,3,6,7] Q Q (oQ (aQ 4 Q ?_)))))))));obtain⟨⟨o1,r2⟩,hr2,hm⟩:=BI hm
 cases o1 with
 | none=>
  dsimp only at hm;refine lI Q Q Q (kA hr2) Q Q (pT 16 (.tup [.d .nilptr,.d (.int .i64 r2)]) Q Q (aE 6 Q (gJ [6,7,8,9] Q Q (oQ (bS 5 Q (iB hm Q (λh4 hm=>?_) (λh4 hm=>?_)))))))
  ·refine aH 7 Q (WR ?_);obtain⟨rfl,rfl⟩:=Prod.mk.inj (Option.some.inj hm);exact⟨_,.mk _ (.cons (.one (TK.lay Q) Q Q Q) (.cons (.one (TK.lay Q) Q Q Q) .nil)) Q,(.cons (.d _) (.refl _) (.cons (.d _) (.refl _) .nil))⟩
  refine aH 1 Q (gJ [6,7,8] Q Q (uJ (aQ 2 Q ?_)));cases hm
 | some q3=>
  dsimp only at hm;refine lI Q Q Q (jZ hr2) Q Q (pT 16 (.tup [.mptr 3 0 0 0,.d (.int .i64 r2)]) Q Q (aG 5 Q (jU (f:=Ae.enc) 3 5 5 66 6 Q Q Q (aE 1 Q (gJ [6,7,8,9] Q Q (oQ (bS 5 Q (iB hm Q (λh5 hm=>?_) (λh5 hm=>?_)))))))))
  ·refine bD 6 Q (WN [6,7] Q Q (aH 1 Q (WR ?_)));obtain⟨rfl,rfl⟩:=Prod.mk.inj (Option.some.inj hm);exact⟨_,.mk _ (.cons (.one (TK.lay Q) Q Q Q) (.cons (.one (TK.lay Q) Q Q Q) .nil)) Q,(.cons (.d _) (.refl _) (.cons (.d _) (.refl _) .nil))⟩
  refine aH 1 Q (gJ [6,7,8] Q Q (uJ (aQ 2 Q ?_)));refine eD [3,5,4] (λ_=>false) Q Q Q (by decide) Q Q Q Q eI Q Q Q ?_;refine pT 23 (.fnc 38 [.mptr 6 0 0 0]) Q Q (aE 1 Q (qBZ [6,7,8,23] Q Q ?_));obtain⟨⟨b15,u6,u7,u8,u9,u10,u11,u12,u13,u14⟩,hr16,hm⟩:=BI hm;cases b15
  ·replace hm:=JB Q hm;refine nS (b:=false) [8,1,2,3,4,5,6] (λj=>Nat.beq j 5) Q Q Q (by decide) Q Q Q Q Q Q (gC fJ hr16) Q Q Q Q (λh=>by cases h) (λ_=>?_);obtain⟨rfl,rfl⟩:=Prod.mk.inj (Option.some.inj hm);exact⟨_,.mk _ (.cons (.one (TK.lay Q) Q Q Q) (.cons (.one (TK.lay Q) Q Q Q) .nil)) Q,(.cons (.d _) (.refl _) (.cons (.d _) (.refl _) .nil))⟩
  replace hm:=JA Q hm;refine nS (b:=true) [8,1,2,3,4,5,6] (λj=>Nat.beq j 5) Q Q Q (by decide) Q Q Q Q Q Q (gC fJ hr16) Q Q Q Q (λ_ wY gY dY=>?_) (λh=>by cases h);refine mM (dQ Q (aE 8 Q (WT (vZ ?_))));refine⟨?_,Q⟩;obtain⟨rfl,rfl⟩:=Prod.mk.inj (Option.some.inj hm);exact⟨_,.mk _ (.cons (.one (TK.lay Q) Q Q Q) (.cons (.one (TK.lay Q) Q Q Q) .nil)) Q,(.cons (.d _) (.refl _) (.cons (.d _) (.refl _) .nil))⟩
theorem oZ {p0:Program} {p1:(List (List Bool))} {p2:Int} {r0:Int} {r1:Int} (hm:fR p0 p1 p2=some (r0,r1)):RetT TP 13 [p0.enc,.sl 1 (p1.map (λ(l:List Bool)=>D.sl 1 (l.map D.bool))),.int .i64 p2] [.int .i64 r0,.int .i64 r1]:=.of (mv:=λ_=>false) (oY hm)
theorem jD {p0:Program} {p1:(List (List Bool))} {p2:(List Int)} {r:Machine} (hm:cQ p0 p1 p2=some r):RetD TP 16 [p0.enc,.sl 1 (p1.map (λ(l:List Bool)=>D.sl 1 (l.map D.bool))),.sl 1 (p2.map (D.int .i64))] (r.enc):=by
 refine .of (mv:=λ_=>false) (aM (bB Q) func16 Q ntmps16 Q Q (λwX gX=>?_));unfold cQ at hm;refine WN [0,1,2] Q Q (aQ 1 Q (cO 0 Q Q Q (dF 1 Q Q bY Q (dC 1 [some 1,some 1,none] Q Q (aG 4 Q (c_D hm (kS ·) Q Q Q Q λr1 hm=>dF 2 Q Q bY Q (dC 2 [some 1,some 1,none] Q Q (aJ 3 Q (aZ hm (λ(c2,c3,c4)=>[]) (λ(c2,c3,c4)=>([(2,.box 42 [.d (.sl 1 (c2.map D.bool)),.d (.sl 1 (c3.map (D.int .i64))),.d (.bool (c4))])])) [] [6,7] Q (λz5 hm=>?_) (λj hm=>?_))))))))))
 ·refine aQ 2 Q (SX Q Q (aO TK Q Q Q) (aJ 4 Q (bJ hm (λ(x11,c12,c13,c14)=>([(14,.d (.int .i64 x11))])) (λ(x11,c12,c13,c14)=>([(2,.box 42 [.d (.sl 1 (c12.map D.bool)),.d (.sl 1 (c13.map (D.int .i64))),.d (.bool (c14))])])) [14] [1,3,6,7,12,13] [0,1,2] Q k0 Q Q Q Q Q (λs z15 hm hz15=>?_))));obtain⟨x11,c12,c13,c14⟩:=s;refine WN [1,3,6,7,12,13,14] Q Q (bS 5 Q (bL hm Q (λh16 hm=>?_) (λh16 hm=>?_)))
  ·refine aN 5 Q (VE hm λe17 he17 hm=>SX Q Q (dH TK Q Q Q Q he17) (aJ 4 Q (iF [(25,.d (.bool (((decide ((0:Int)<=e17))&&(decide (e17 < (p1.length:Int)))))))] [25] [1,3,6,7,9,12,13,14] Q ?_ ?_)))
   ·refine aQ 3 Q (SB TK Q (λq18 hq18=>?_));cases q18
    ·refine aE 6 Q ?_;exact⟨[0,1,2],Q,k0,bU (aV (aW (by first|(simp [hq18];done)|(simp only [hq18];simp))) Q) Q⟩
    refine aG 2 Q (SX Q Q (aO TK Q Q Q) (aE 3 Q ?_));exact⟨[0,1,2],Q,k0,bU (aV (aW (by first|(simp [hq18];done)|(simp only [hq18];simp))) Q) Q⟩
   refine WN [1,3,6,7,9,12,13,14,25] Q Q (bR hm Q (λh19 hm=>?_) (λh19 hm=>?_))
   ·refine gQ follows ?_;iterate 4 (refine DA [0,1,2] TK Q ?_)
    refine VE hm λe20 he20 hm=>DX [0,1,2] Q Q (dH TK Q Q Q Q he20) (DA [0,1,2] TK Q (yA [0,1,2] hm (mR ·) Q Q Q Q λr21 hm=>?_));refine DT ?_ (by kernel_rfl);exact aG 5 Q (GE hm λg22 hm=>SX Q Q (bW Q Q Q Q g22) (aE 2 Q (bT [0,1,2] hm Q Q)))
   exact aN 4 Q (GE hm λg23 hm=>SX Q Q (bW Q Q Q Q g23) (aE 2 Q (bT [0,1,2] hm Q Q)))
  refine aH 2 Q (IE hm λv24 hm hz=>?_);rw [hz15 _ hz] at hm;exact WX (bK 1 Q (bF [0,1,2] hm Q Q))
 obtain⟨c2,c3,c4⟩:=j;refine WN [6,7] Q Q (aH 6 Q ?_);obtain rfl:=OJ hm;exact EndsS.cellR _ TK Q Q Q Q Q (.d _)
theorem tR {p0:(List Int)} {p1:(List Int)} {r:Bool} (hm:mQ p0 p1=some r):RetN TP 12 [.sl 1 (p0.map (D.int .i64)),.sl 1 (p1.map (D.int .i64))] (.bool (r)):=by
 refine .unit (aM (bB Q) func12 Q ntmps12 Q Q (λwX gX=>?_)) Q;unfold mQ at hm;refine WN [0,1] Q Q (aQ 7 Q (SX Q Q (aO TK Q Q Q) (aG 1 Q (SX Q Q (aO TK Q Q Q) (aJ 3 Q (iB hm Q (λh1 hm=>?_) (λh1 hm=>?_)))))))
 ·exact aH 6 Q (aP hm Q)
 refine bD 2 Q (bN hm (λ_=>[]) (λ_=>[]) [] [] Q (λz2 hm hz2=>?_) (λj hm=>?_))
 ·refine bS 5 Q (bJ hm (λi4=>([(5,.d (.int .i64 i4))])) (λi4=>[]) [5] [0,1] [] Q k0 Q Q Q Q Q (λi4 z5 hm hz5=>WN [0,1,5] Q Q (aQ 4 Q (SX Q Q (aO TK Q Q Q) (aJ 3 Q (bL hm Q (λh6 hm=>?_) (λh6 hm=>?_)))))))
  ·refine bD 4 Q (bM follows ?_);iterate 2 (refine DA [] TK Q ?_)
   refine VE hm λe7 he7 hm=>DX [] Q Q (dH TK Q Q Q Q he7) ?_;iterate 3 (refine DA [] TK Q ?_)
   refine VE hm λe8 he8 hm=>DX [] Q Q (dH TK Q Q Q Q he8) ?_;iterate 2 (refine DA [] TK Q ?_)
   refine DT ?_ (by kernel_rfl);refine aJ 2 Q (iB hm Q (λh9 hm=>?_) (λh9 hm=>?_))
   ·refine bD 4 Q (WN [4] Q Q (aH 3 Q (IE hm λv10 hm hz=>?_)));rw [hz5 _ hz] at hm;refine WR (bK 1 Q (IE hm λv11 hm hz=>?_));rw [hz2 _ hz] at hm;exact WR (aP hm Q)
   exact aN 5 Q (GE hm λg12 hm=>SX Q Q (bW Q Q Q Q g12) (aE 2 Q (bT [] hm Q Q)))
  refine aH 2 Q (IE hm λv13 hm hz=>?_);rw [hz5 _ hz] at hm;exact WX (bK 1 Q (bT [] hm Q Q))
 exact WN [] Q Q (aH 5 Q (aP hm Q))
theorem nE {p0:Machine} {p1:Machine} {r:Bool} (hm:eU p0 p1=some r):RetN TP 15 [p0.enc,p1.enc] (.bool (r)):=by
 refine .unit (aM (bB Q) func15 Q ntmps15 Q Q (λwX gX=>?_)) Q;unfold eU at hm;refine WN [0,1] Q Q (aQ 1 Q (cO 0 Q Q Q (cO 1 Q Q Q (aJ 4 Q ?_))));refine iF [(29,.d (.bool (((!(((p0.halted) == (p1.halted))))||((!(decide ((p0.vars.length:Int)=(p1.vars.length:Int))))||(!(decide ((p0.counts.length:Int)=(p1.counts.length:Int)))))))))] [29] [2,3] Q ?_ ?_
 ·refine aQ 6 Q (SB TK Q (λq1 hq1=>?_));cases q1
  ·refine aG 2 Q (SX Q Q (aO TK Q Q Q) (aG 2 Q (SX Q Q (aO TK Q Q Q) (aG 2 Q (SB TK Q (λq2 hq2=>?_))))));cases q2
   ·refine aG 2 Q (SX Q Q (aO TK Q Q Q) (aG 2 Q (SX Q Q (aO TK Q Q Q) (aE 3 Q ?_))));exact⟨[0,1],Q,k0,bU (aV (aW (by first|(simp [hq1,hq2];done)|(simp only [hq1,hq2];simp))) Q) Q⟩
   refine aE 9 Q ?_;exact⟨[0,1],Q,k0,bU (aV (aW (by first|(simp [hq1,hq2];done)|(simp only [hq1,hq2];simp))) Q) Q⟩
  refine aE 18 Q ?_;exact⟨[0,1],Q,k0,bU (aV (aW (by first|(simp [hq1];done)|(simp only [hq1];simp))) Q) Q⟩
 refine WN [2,3,29] Q Q (bR hm Q (λh3 hm=>?_) (λh3 hm=>?_))
 ·exact aH 6 Q (aP hm Q)
 refine bD 2 Q (bN hm (λ_=>[]) (λ_=>[]) [] [2,3] Q (λz4 hm hz4=>?_) (λj hm=>?_))
 ·refine bS 5 Q (bJ hm (λi6=>([(5,.d (.int .i64 i6))])) (λi6=>[]) [5] [2,3] [0,1] Q k0 Q Q Q Q Q (λi6 z7 hm hz7=>WN [2,3,5] Q Q (aQ 5 Q (SX Q Q (aO TK Q Q Q) (aJ 3 Q (bL hm Q (λh8 hm=>?_) (λh8 hm=>?_)))))))
  ·refine bD 4 Q (bM follows ?_);iterate 3 (refine DA [0,1] TK Q ?_)
   refine VE hm λe9 he9 hm=>DX [0,1] Q Q (dH TK Q Q Q Q he9) ?_;iterate 4 (refine DA [0,1] TK Q ?_)
   refine VE hm λe10 he10 hm=>DX [0,1] Q Q (dH TK Q Q Q Q he10) ?_;iterate 2 (refine DA [0,1] TK Q ?_)
   refine DT ?_ (by kernel_rfl);refine aJ 2 Q (WN [2,3,5,47] Q Q (bR hm Q (λh11 hm=>?_) (λh11 hm=>?_)))
   ·refine aH 7 Q (IE hm λv12 hm hz=>?_);rw [hz7 _ hz] at hm;refine WR (bK 1 Q (IE hm λv13 hm hz=>?_));rw [hz4 _ hz] at hm;exact WR (aP hm Q)
   exact aN 5 Q (GE hm λg14 hm=>SX Q Q (bW Q Q Q Q g14) (aE 2 Q (bT [0,1] hm Q Q)))
  refine aH 2 Q (IE hm λv15 hm hz=>?_);rw [hz7 _ hz] at hm;exact WX (bK 1 Q (bT [0,1] hm Q Q))
 refine WN [2,3] Q Q (bN hm (λ_=>[]) (λ_=>[]) [] [] Q (λz16 hm hz16=>?_) (λj hm=>?_))
 ·refine bS 5 Q (bJ hm (λi18=>([(6,.d (.int .i64 i18))])) (λi18=>[]) [6] [2,3] [0,1] Q k0 Q Q Q Q Q (λi18 z19 hm hz19=>WN [2,3,6] Q Q (aQ 5 Q (SX Q Q (aO TK Q Q Q) (aJ 3 Q (bL hm Q (λh20 hm=>?_) (λh20 hm=>?_)))))))
  ·refine bD 4 Q (bM follows ?_);iterate 3 (refine DA [0,1] TK Q ?_)
   refine VE hm λe21 he21 hm=>DX [0,1] Q Q (dH TK Q Q Q Q he21) ?_;iterate 4 (refine DA [0,1] TK Q ?_)
   refine VE hm λe22 he22 hm=>DX [0,1] Q Q (dH TK Q Q Q Q he22) ?_;iterate 2 (refine DA [0,1] TK Q ?_)
   refine DT ?_ (by kernel_rfl);refine aJ 2 Q (WN [2,3,6,65] Q Q (iB hm Q (λh23 hm=>?_) (λh23 hm=>?_)))
   ·refine aH 7 Q (IE hm λv24 hm hz=>?_);rw [hz19 _ hz] at hm;refine WR (bK 1 Q (IE hm λv25 hm hz=>?_));rw [hz16 _ hz] at hm;exact WR (aP hm Q)
   exact aN 5 Q (GE hm λg26 hm=>SX Q Q (bW Q Q Q Q g26) (aE 2 Q (bT [0,1] hm Q Q)))
  refine aH 2 Q (IE hm λv27 hm hz=>?_);rw [hz19 _ hz] at hm;exact WX (bK 1 Q (bT [0,1] hm Q Q))
 exact WN [] Q Q (aH 5 Q (aP hm Q))
theorem mL  {r:Bool} (hm:fY=some r):RetN TP 9 [] (.bool (r)):=by
 refine .unit (aM (bB Q) func9 Q ntmps9 Q Q (λwX gX=>?_)) Q;unfold fY at hm;refine WN [] Q Q (aQ 5 Q (SX Q Q (gK [.const (Value.bool Bool.false)] TK Q Q iE Q Q Q Q Q) (SX Q Q (gK [.const (Value.bool Bool.true)] TK Q Q iE Q Q Q Q Q) (SX Q Q (gK [.tmp 15,.tmp 16] TK Q Q zero40 Q Q Q Q Q) (aG 4 Q (c_D hm (dD ·) Q Q Q Q λr1 hm=>c_D hm (oN ·) Q Q Q Q λr2 hm=>SX Q Q (bZ Q qGJ sY Q Q Q Q) (SX Q Q (gK [.tmp 20] TK Q Q sY Q Q Q Q Q) (aG 4 Q (c_D hm (dK ·) Q Q Q Q λr3 hm=>aG 2 Q (BE hm λr4 hr4 hm=>?_))))))))));obtain⟨r5,r6,r7⟩:=r4;refine SX Q Q (pA Q Q Q (hU hr4)) (aJ 9 Q (WN [1,2,3,4,5] Q Q (aN 1 Q (c_D hm (dK ·) Q Q Q Q λr8 hm=>aG 2 Q (BE hm λr9 hr9 hm=>?_)))));obtain⟨r10,r11,r12⟩:=r9;refine SX Q Q (pA Q Q Q (hU hr9)) (aG 10 Q (c_D hm (dK ·) Q Q Q Q λr13 hm=>c_D hm (dD ·) Q Q Q Q λr14 hm=>c_D hm (dD ·) Q Q Q Q λr15 hm=>SX Q Q (qBJ (f:=Ab.Ak) (xs:=([r14,r15]:List Ab)) [.tmp 40,.tmp 41] TK Q Q mO Q (qDP Q (oG (Ab.Ag _) (oG (Ab.Ag _) wH))) Q (sS Ab.Am) Q) (SX Q Q (bZ Q qCR mO Q Q Q Q) (SX Q Q (bZ Q qGJ sY Q Q Q Q) (SX Q Q (gK [.tmp 44] TK Q Q sY Q Q Q Q Q) (aG 1 Q (BE hm λr16 hr16 hm=>?_)))))));obtain⟨r17,r18,r19⟩:=r16;refine SX Q Q (pA Q Q Q (hU hr16)) (aJ 9 Q (WN [1,3,4,5,7,8,9,10,11] Q Q (aN 1 Q (c_D hm (dK ·) Q Q Q Q λr20 hm=>aG 1 Q (BE hm λr21 hr21 hm=>?_)))));obtain⟨r22,r23⟩:=r21;refine SX Q Q (pA Q Q Q (oZ hr21)) (aG 8 Q (c_D hm (dK ·) Q Q Q Q λr24 hm=>aG 2 Q (c_D hm (jD ·) Q Q Q Q λr25 hm=>dF 0 Q Q bY Q (dC 0 [some 1,some 1,none] Q Q (aJ 3 Q (aZ hm (λx26=>([(0,.d (.bool (x26)))])) (λx26=>[]) [0] [] Q (λz27 hm=>?_) (λx26 hm=>?_)))))))
 ·refine aQ 2 Q (SX Q Q (gK [.const (Value.int IntKind.i64 1),.const (Value.int IntKind.i64 1)] TK Q Q iS Q Q Q Q Q) (c_N hm (tR ·) Q Q Q Q λr28 hm=>SB TK Q (λq29 hq29=>?_)));cases q29
  ·replace hm:=JB hq29 hm;exact aE 43 Q (bF [0] hm Q Q)
  replace hm:=JA hq29 hm;refine aG 2 Q (SB TK Q (λq30 hq30=>?_));cases q30
  ·replace hm:=JB hq30 hm;exact aE 40 Q (bF [0] hm Q Q)
  replace hm:=JA hq30 hm;refine aG 3 Q (SB TK Q (λq31 hq31=>?_));cases q31
  ·replace hm:=JF hq31 hm;exact aE 36 Q (bF [0] hm Q Q)
  replace hm:=JT hq31 hm;refine aG 3 Q (SB TK Q (λq32 hq32=>?_));cases q32
  ·replace hm:=JB hq32 hm;exact aE 32 Q (bF [0] hm Q Q)
  replace hm:=JA hq32 hm;refine aG 3 Q (SB TK Q (λq33 hq33=>?_));cases q33
  ·replace hm:=JF hq33 hm;exact aE 28 Q (bF [0] hm Q Q)
  replace hm:=JT hq33 hm;refine aG 1 Q (SX Q Q (aO TK Q Q Q) (aG 2 Q (SB TK Q (λq34 hq34=>?_))));cases q34
  ·replace hm:=JF hq34 hm;exact aE 23 Q (bF [0] hm Q Q)
  replace hm:=JT hq34 hm;refine aG 2 Q (SB TK Q (λq35 hq35=>?_));cases q35
  ·replace hm:=JB hq35 hm;exact aE 20 Q (bF [0] hm Q Q)
  replace hm:=JA hq35 hm;refine aG 3 Q (SB TK Q (λq36 hq36=>?_));cases q36
  ·replace hm:=JF hq36 hm;exact aE 16 Q (bF [0] hm Q Q)
  replace hm:=JT hq36 hm;refine aG 3 Q (SB TK Q (λq37 hq37=>?_));cases q37
  ·replace hm:=JF hq37 hm;exact aE 12 Q (bF [0] hm Q Q)
  replace hm:=JT hq37 hm;refine aG 3 Q (SB TK Q (λq38 hq38=>?_));cases q38
  ·replace hm:=JF hq38 hm;exact aE 8 Q (bF [0] hm Q Q)
  replace hm:=JT hq38 hm;exact aG 1 Q (SX Q Q (gK [.const (Value.bool Bool.true),.const (Value.bool Bool.false),.const (Value.bool Bool.true)] TK Q Q iE Q Q Q Q Q) (SX Q Q (gK [.const (Value.int IntKind.i64 0),.const (Value.int IntKind.i64 2)] TK Q Q iS Q Q Q Q Q) (SX Q Q (bZ Q nM bY Q Q Q Q) (c_N hm (nE ·) Q Q Q Q λr39 hm=>aE 3 Q (bF [0] hm Q Q)))))
 exact WN [0] Q Q (aH 1 Q (aP hm Q))
theorem qC:∀ (fu:Nat) {p0:Ab} {r:Int} (hm:cY fu p0=some r),RetN TP 69 [p0.enc] (.int .i64 r):=by
 intro fu
 induction fu with
 | zero=>
  intro p0 r hm;unfold cY at hm;cases hm
 | succ fu ih=>
  intro p0 r hm;refine .unit (aM (bB Q) func69 Q ntmps69 Q Q (λwX gX=>?_)) Q;unfold cY at hm;refine WN [0] Q Q (aQ 1 Q (cO 0 Q Q Q (aJ 7 Q (aZ hm (λd1=>([(3,.d (.int .i64 d1))])) (λd1=>[]) [3] [] Q (λz2 hm=>?_) (λd1 hm=>?_)))))
  ·refine bS 5 Q (bJ hm (λ(d5,i6)=>([(3,.d (.int .i64 d5)),(4,.d (.int .i64 i6))])) (λ(d5,i6)=>[]) [3,4] [1] [0] Q k0 Q Q Q Q Q (λs z7 hm hz7=>?_));obtain⟨d5,i6⟩:=s;refine WN [1,3,4] Q Q (aQ 5 Q (SX Q Q (aO TK Q Q Q) (aJ 3 Q (bL hm Q (λh8 hm=>?_) (λh8 hm=>?_)))))
   ·exact aN 9 Q (VE hm λe9 he9 hm=>SX Q Q (lZ TK Q Q Q Q he9 (Ab.Ag _)) (aG 1 Q (c_N hm (ih ·) Q Q Q Q λr10 hm=>SX Q Q (rd_max Q Q Q Q) (aG 6 Q (GE hm λg11 hm=>SX Q Q (bW Q Q Q Q g11) (aE 2 Q (bT [0] hm Q Q)))))))
   refine aH 2 Q (IE hm λv12 hm hz=>?_);rw [hz7 _ hz] at hm;exact WX (bK 1 Q (bF [0] hm Q Q))
  exact WN [3] Q Q (aN 2 Q (GE hm λg13 hm=>SX Q Q (bW Q Q Q Q g13) (aE 4 Q (aP hm Q))))
theorem rR {p0:Ab} {r:Int} (hm:iL p0=some r):RetN TP 69 [p0.enc] (.int .i64 r):=qC bA hm
theorem rN:∀ (fu:Nat) {p0:Ab} {p1:Int} {r:Bool} (hm:cU fu p0 p1=some r),RetN TP 70 [p0.enc,.int .i64 p1] (.bool (r)):=by
 intro fu
 induction fu with
 | zero=>
  intro p0 p1 r hm;unfold cU at hm;cases hm
 | succ fu ih=>
  intro p0 p1 r hm;refine .unit (aM (bB Q) func70 Q ntmps70 Q Q (λwX gX=>?_)) Q;unfold cU at hm;refine WN [0,1] Q Q (aQ 1 Q (cO 0 Q Q Q (aG 6 Q (SX Q Q (aO TK Q Q Q) (aJ 3 Q (bN hm (λ_=>[]) (λ_=>[]) [] [1,2,5] Q (λz1 hm hz1=>?_) (λj hm=>?_)))))))
  ·refine bS 6 Q (aZ hm (λx2=>([(12,.d (.bool (x2)))])) (λx2=>[]) [12] [1,2,5,11] Q (λz3 hm=>?_) (λx2 hm=>?_))
   ·refine bS 5 Q (bL hm Q (λh4 hm=>?_) (λh4 hm=>?_))
    ·exact aH 1 Q (bF [0] hm Q Q)
    exact aH 4 Q (bF [0] hm Q Q)
   refine WN [1,2,5,11,12] Q Q (bR hm Q (λh5 hm=>?_) (λh5 hm=>?_))
   ·refine iF [(4,.d (.bool (((decide (p0.var=(0:Int)))&&(decide ((p0.args.length:Int)=(0:Int)))))))] [4] [] Q ?_ ?_
    ·refine aQ 4 Q (SB TK Q (λq6 hq6=>?_));cases q6
     ·refine aE 5 Q ?_;exact⟨[0],Q,k0,bU (aV (aW (by first|(simp [hq6];done)|(simp only [hq6];simp))) Q) Q⟩
     refine aE 5 Q ?_;exact⟨[0],Q,k0,bU (aV (aW (by first|(simp [hq6];done)|(simp only [hq6];simp))) Q) Q⟩
    refine WN [4] Q Q (aH 2 Q (IE hm λv7 hm hz=>?_));rw [hz1 _ hz] at hm;exact WR (aP hm Q)
   refine bD 5 Q (bL hm Q (λh8 hm=>?_) (λh8 hm=>?_))
   ·refine iF [(4,.d (.bool (((decide ((0:Int)<=p0.var))&&((decide (p0.var < p1))&&(decide ((p0.args.length:Int)=(0:Int))))))))] [4] [] Q ?_ ?_
    ·refine aQ 4 Q (SB TK Q (λq9 hq9=>?_));cases q9
     ·refine aE 11 Q ?_;exact⟨[0],Q,k0,bU (aV (aW (by first|(simp [hq9];done)|(simp only [hq9];simp))) Q) Q⟩
     refine aG 5 Q (SB TK Q (λq10 hq10=>?_));cases q10
     ·refine aE 5 Q ?_;exact⟨[0],Q,k0,bU (aV (aW (by first|(simp [hq9,hq10];done)|(simp only [hq9,hq10];simp))) Q) Q⟩
     refine aE 5 Q ?_;exact⟨[0],Q,k0,bU (aV (aW (by first|(simp [hq9,hq10];done)|(simp only [hq9,hq10];simp))) Q) Q⟩
    refine WN [4] Q Q (aH 2 Q (IE hm λv11 hm hz=>?_));rw [hz1 _ hz] at hm;exact WR (aP hm Q)
   refine bD 5 Q (bL hm Q (λh12 hm=>?_) (λh12 hm=>?_))
   ·refine bD 5 Q (iB hm Q (λh13 hm=>?_) (λh13 hm=>?_))
    ·refine aH 6 Q (IE hm λv14 hm hz=>?_);rw [hz1 _ hz] at hm;exact WR (aP hm Q)
    exact aH 2 Q (bT [0] hm Q Q)
   refine bD 6 Q (bL hm Q (λh15 hm=>?_) (λh15 hm=>?_))
   ·exact bD 2 Q (yJ Q true h15 (aH 2 Q (bT [0] hm Q Q)))
   refine bD 5 Q (bL hm Q (λh16 hm=>?_) (λh16 hm=>?_))
   ·exact aH 2 Q (bT [0] hm Q Q)
   refine aH 6 Q (IE hm λv17 hm hz=>?_);rw [hz1 _ hz] at hm;exact WR (aP hm Q)
  refine WN [1,2,5] Q Q (bN hm (λ_=>[]) (λ_=>[]) [] [2] Q (λz18 hm hz18=>?_) (λj hm=>?_))
  ·refine bS 5 Q (bJ hm (λi20=>([(6,.d (.int .i64 i20))])) (λi20=>[]) [6] [1,2,5] [0] Q k0 Q Q Q Q Q (λi20 z21 hm hz21=>WN [1,2,5,6] Q Q (bS 7 Q (bL hm Q (λh22 hm=>?_) (λh22 hm=>?_)))))
   ·refine aN 8 Q (VE hm λe23 he23 hm=>SX Q Q (lZ TK Q Q Q Q he23 (Ab.Ag _)) (aG 2 Q (c_N hm (ih ·) Q Q Q Q λr24 hm=>aJ 3 Q (bR hm Q (λh25 hm=>?_) (λh25 hm=>?_)))))
    ·refine bD 4 Q (WN [4] Q Q (aH 3 Q (IE hm λv26 hm hz=>?_)));rw [hz21 _ hz] at hm;refine WR (bK 1 Q (IE hm λv27 hm hz=>?_));rw [hz18 _ hz] at hm;exact WR (aP hm Q)
    exact aN 5 Q (GE hm λg28 hm=>SX Q Q (bW Q Q Q Q g28) (aE 2 Q (bT [0] hm Q Q)))
   refine aH 2 Q (IE hm λv29 hm hz=>?_);rw [hz21 _ hz] at hm;exact WX (bK 1 Q (bT [0] hm Q Q))
  exact WN [2] Q Q (aH 8 Q (aP hm Q))
theorem tP {p0:Ab} {p1:Int} {r:Bool} (hm:jM p0 p1=some r):RetN TP 70 [p0.enc,.int .i64 p1] (.bool (r)):=rN bA hm
theorem rO {p0:Ab} {p1:Int} {r:Bool} (hm:fV p0 p1=some r):RetN TP 66 [p0.enc,.int .i64 p1] (.bool (r)):=by
 refine .unit (aM (bB Q) func66 Q ntmps66 Q Q (λwX gX=>?_)) Q;unfold fV at hm;refine WN [0,1] Q Q (aQ 1 Q (cO 0 Q Q Q (aJ 3 Q (aZ hm (λx1=>([(4,.d (.bool (x1)))])) (λx1=>[]) [4] [] Q (λz2 hm=>?_) (λx1 hm=>?_)))))
 ·refine aQ 2 Q (c_N hm (nF ·) Q Q Q Q λr3 hm=>aG 1 Q (SB TK Q (λq4 hq4=>?_)));cases q4
  ·replace hm:=JF hq4 hm;exact aE 11 Q (bF [0] hm Q Q)
  replace hm:=JT hq4 hm;refine aG 1 Q (c_N hm (rR ·) Q Q Q Q λr5 hm=>aG 2 Q (SB TK Q (λq6 hq6=>?_)));cases q6
  ·replace hm:=JF hq6 hm;exact aE 6 Q (bF [0] hm Q Q)
  replace hm:=JT hq6 hm;exact aG 2 Q (c_N hm (tP ·) Q Q Q Q λr7 hm=>aE 3 Q (bF [0] hm Q Q))
 exact WN [4] Q Q (aH 1 Q (aP hm Q))
theorem tL {p0:Program} {p1:Af} {r:Bool} (hm:hJ p0 p1=some r):RetN TP 59 [p0.enc,p1.enc] (.bool (r)):=by
 refine .unit (aM (bB Q) func59 Q ntmps59 Q Q (λwX gX=>?_)) Q;unfold hJ at hm;refine WN [0,1] Q Q (aQ 1 Q (cO 0 Q Q Q (cO 1 Q Q Q (aJ 4 Q ?_))));refine iF [(27,.d (.bool ((bif !(decide (p1.kind=(1:Int))) then ((!(decide (p1.kind=(2:Int))))||((decide (p1.var < p0.inputs))||(decide ((p0.names.length:Int)<=p1.var)))) else ((decide (p1.var < p0.inputs))||(decide ((p0.names.length:Int)<=p1.var)))))))] [27] [2,3] Q ?_ ?_
 ·refine aQ 4 Q (SB TK Q (λq1 hq1=>?_));cases q1
  ·refine aG 11 Q (SB TK Q (λq2 hq2=>?_));cases q2
   ·refine aG 4 Q (SX Q Q (aO TK Q Q Q) (aE 3 Q ?_));exact⟨[0,1],Q,k0,bU (aV (aW (by first|(simp [hq1,hq2];done)|(simp only [hq1,hq2];simp))) Q) Q⟩
   refine aE 8 Q ?_;exact⟨[0,1],Q,k0,bU (aV (aW (by first|(simp [hq1,hq2];done)|(simp only [hq1,hq2];simp))) Q) Q⟩
  refine aG 4 Q (SB TK Q (λq3 hq3=>?_));cases q3
  ·refine aG 6 Q (SB TK Q (λq4 hq4=>?_));cases q4
   ·refine aG 4 Q (SX Q Q (aO TK Q Q Q) (aE 3 Q ?_));exact⟨[0,1],Q,k0,bU (aV (aW (by first|(simp [hq1,hq3,hq4];done)|(simp only [hq1,hq3,hq4];simp))) Q) Q⟩
   refine aE 8 Q ?_;exact⟨[0,1],Q,k0,bU (aV (aW (by first|(simp [hq1,hq3,hq4];done)|(simp only [hq1,hq3,hq4];simp))) Q) Q⟩
  refine aE 15 Q ?_;exact⟨[0,1],Q,k0,bU (aV (aW (by first|(simp [hq1,hq3];done)|(simp only [hq1,hq3];simp))) Q) Q⟩
 refine WN [2,3,27] Q Q (bR hm Q (λh5 hm=>?_) (λh5 hm=>?_))
 ·exact aH 6 Q (aP hm Q)
 refine bD 3 Q ?_;refine iF [(50,.d (.bool ((bif decide (p1.kind=(1:Int)) then ((!(decide (p1.Ad=(0:Int))))||((decide (p1.kind=(2:Int)))&&((decide (p1.Ad < (1:Int)))||(decide ((1073741824:Int) < p1.Ad))))) else ((decide (p1.kind=(2:Int)))&&((decide (p1.Ad < (1:Int)))||(decide ((1073741824:Int) < p1.Ad))))))))] [50] [2,3] Q ?_ ?_
 ·refine aQ 4 Q (SB TK Q (λq6 hq6=>?_));cases q6
  ·refine aG 8 Q (SB TK Q (λq7 hq7=>?_));cases q7
   ·refine aE 11 Q ?_;exact⟨[0,1],Q,k0,bU (aV (aW (by first|(simp [hq6,hq7];done)|(simp only [hq6,hq7];simp))) Q) Q⟩
   refine aG 3 Q (SB TK Q (λq8 hq8=>?_));cases q8
   ·refine aE 7 Q ?_;exact⟨[0,1],Q,k0,bU (aV (aW (by first|(simp [hq6,hq7,hq8];done)|(simp only [hq6,hq7,hq8];simp))) Q) Q⟩
   refine aE 7 Q ?_;exact⟨[0,1],Q,k0,bU (aV (aW (by first|(simp [hq6,hq7,hq8];done)|(simp only [hq6,hq7,hq8];simp))) Q) Q⟩
  refine aG 4 Q (SB TK Q (λq9 hq9=>?_));cases q9
  ·refine aG 3 Q (SB TK Q (λq10 hq10=>?_));cases q10
   ·refine aE 11 Q ?_;exact⟨[0,1],Q,k0,bU (aV (aW (by first|(simp [hq6,hq9,hq10];done)|(simp only [hq6,hq9,hq10];simp))) Q) Q⟩
   refine aG 3 Q (SB TK Q (λq11 hq11=>?_));cases q11
   ·refine aE 7 Q ?_;exact⟨[0,1],Q,k0,bU (aV (aW (by first|(simp [hq6,hq9,hq10,hq11];done)|(simp only [hq6,hq9,hq10,hq11];simp))) Q) Q⟩
   refine aE 7 Q ?_;exact⟨[0,1],Q,k0,bU (aV (aW (by first|(simp [hq6,hq9,hq10,hq11];done)|(simp only [hq6,hq9,hq10,hq11];simp))) Q) Q⟩
  refine aE 15 Q ?_;exact⟨[0,1],Q,k0,bU (aV (aW (by first|(simp [hq6,hq9];done)|(simp only [hq6,hq9];simp))) Q) Q⟩
 refine WN [2,3,50] Q Q (bR hm Q (λh12 hm=>?_) (λh12 hm=>?_))
 ·exact aH 6 Q (aP hm Q)
 exact aN 7 Q (SX Q Q (aO TK Q Q Q) (c_N hm (rO ·) Q Q Q Q λr13 hm=>aE 4 Q (aP hm Q)))
theorem mG {p0:Program} {r:Int} (hm:fA p0=some r):RetN TP 45 [p0.enc] (.int .i64 r):=by
 refine .unit (aM (bB Q) func45 Q ntmps45 Q Q (λwX gX=>?_)) Q;unfold fA at hm;refine WN [0] Q Q (aQ 1 Q (cO 0 Q Q Q (aG 7 Q (SX Q Q (aO TK Q Q Q) (aJ 3 Q (bL hm Q (λh1 hm=>?_) (λh1 hm=>?_)))))))
 ·exact aH 6 Q (aP hm Q)
 refine bD 3 Q ?_;refine iF [(20,.d (.bool (((decide (p0.inputs < (0:Int)))||(decide ((p0.names.length:Int) < p0.inputs))))))] [20] [1] Q ?_ ?_
 ·refine aQ 4 Q (SB TK Q (λq2 hq2=>?_));cases q2
  ·refine aG 4 Q (SX Q Q (aO TK Q Q Q) (aE 3 Q ?_));exact⟨[0],Q,k0,bU (aV (aW (by first|(simp [hq2];done)|(simp only [hq2];simp))) Q) Q⟩
  refine aE 8 Q ?_;exact⟨[0],Q,k0,bU (aV (aW (by first|(simp [hq2];done)|(simp only [hq2];simp))) Q) Q⟩
 refine WN [1,20] Q Q (bR hm Q (λh3 hm=>?_) (λh3 hm=>?_))
 ·exact aH 6 Q (aP hm Q)
 refine bD 2 Q (bN hm (λ_=>[]) (λ_=>[]) [] [1] Q (λz4 hm hz4=>?_) (λj hm=>?_))
 ·refine bS 5 Q (bJ hm (λi6=>([(3,.d (.int .i64 i6))])) (λi6=>[]) [3] [1] [0] Q k0 Q Q Q Q Q (λi6 z7 hm hz7=>WN [1,3] Q Q (aQ 5 Q (SX Q Q (aO TK Q Q Q) (aJ 3 Q (bL hm Q (λh8 hm=>?_) (λh8 hm=>?_)))))))
  ·refine bD 4 Q (bM follows ?_);iterate 4 (refine DA [0] TK Q ?_)
   refine VE hm λe9 he9 hm=>DX [0] Q Q (dH TK Q Q Q Q he9) (DA [0] TK Q (xZ [0] hm (tL ·) Q Q Q Q λr10 hm=>DA [0] TK Q ?_));refine DT ?_ (by kernel_rfl);refine aJ 2 Q (bR hm Q (λh11 hm=>?_) (λh11 hm=>?_))
   ·refine bD 4 Q (WN [2] Q Q (aH 3 Q (IE hm λv12 hm hz=>?_)));rw [hz7 _ hz] at hm;refine WR (bK 1 Q (IE hm λv13 hm hz=>?_));rw [hz4 _ hz] at hm;exact WR (aP hm Q)
   exact aN 5 Q (GE hm λg14 hm=>SX Q Q (bW Q Q Q Q g14) (aE 2 Q (bT [0] hm Q Q)))
  refine aH 2 Q (IE hm λv15 hm hz=>?_);rw [hz7 _ hz] at hm;exact WX (bK 1 Q (bT [0] hm Q Q))
 refine WN [1] Q Q (bN hm (λ_=>[]) (λ_=>[]) [] [] Q (λz16 hm hz16=>?_) (λj hm=>?_))
 ·refine bS 5 Q (bJ hm (λi18=>([(4,.d (.int .i64 i18))])) (λi18=>[]) [4] [1] [0] Q k0 Q Q Q Q Q (λi18 z19 hm hz19=>WN [1,4] Q Q (aQ 5 Q (SX Q Q (aO TK Q Q Q) (aJ 3 Q (bL hm Q (λh20 hm=>?_) (λh20 hm=>?_)))))))
  ·refine bD 2 Q (bN hm (λ_=>[]) (λ_=>[]) [] [1,4] Q (λz21 hm hz21=>?_) (λj hm=>?_))
   ·refine bS 6 Q (bJ hm (λk23=>([(5,.d (.int .i64 k23))])) (λk23=>[]) [5] [1,4] [0] Q k0 Q Q Q Q Q (λk23 z24 hm hz24=>WN [1,4,5] Q Q (bS 7 Q (bL hm Q (λh25 hm=>?_) (λh25 hm=>?_)))))
    ·refine bD 4 Q (bM follows ?_);iterate 3 (refine DA [0] TK Q ?_)
     refine VE hm λe26 he26 hm=>DX [0] Q Q (dH TK Q Q Q Q he26) ?_;iterate 5 (refine DA [0] TK Q ?_)
     refine VE hm λe27 he27 hm=>DX [0] Q Q (dH TK Q Q Q Q he27) ?_;iterate 3 (refine DA [0] TK Q ?_)
     refine DT ?_ (by kernel_rfl);refine aJ 2 Q (WN [1,4,5,60] Q Q (bL hm Q (λh28 hm=>?_) (λh28 hm=>?_)))
     ·refine aH 7 Q (IE hm λv29 hm hz=>?_);rw [hz24 _ hz] at hm;refine WR (bK 2 Q (IE hm λv30 hm hz=>?_));rw [hz21 _ hz] at hm;refine WR (IE hm λv31 hm hz=>?_);rw [hz19 _ hz] at hm;refine WR (bK 1 Q (IE hm λv32 hm hz=>?_));rw [hz16 _ hz] at hm;exact WR (aP hm Q)
     exact aN 5 Q (GE hm λg33 hm=>SX Q Q (bW Q Q Q Q g33) (aE 2 Q (bT [0] hm Q Q)))
    refine aH 2 Q (IE hm λv34 hm hz=>?_);rw [hz24 _ hz] at hm;exact WX (bK 2 Q (bT [0] hm Q Q))
   exact WN [1,4] Q Q (aN 2 Q (GE hm λg35 hm=>SX Q Q (bW Q Q Q Q g35) (aE 2 Q (bT [0] hm Q Q))))
  refine aH 2 Q (IE hm λv36 hm hz=>?_);rw [hz19 _ hz] at hm;exact WX (bK 1 Q (bT [0] hm Q Q))
 exact WN [] Q Q (aH 5 Q (aP hm Q))
theorem mF {p0:Program} {r:Machine} (hm:eZ p0=some r):RetD TP 33 [p0.enc] (r.enc):=by
 refine .of (mv:=λ_=>false) (aM (bB Q) func33 Q ntmps33 Q Q (λwX gX=>?_));unfold eZ at hm;refine WN [0] Q Q (aQ 1 Q (cO 0 Q Q Q (dF 1 Q Q bY Q (dC 1 [some 1,some 1,none] Q Q (aG 5 Q (c_N hm (mG ·) Q Q Q Q λr1 hm=>aJ 3 Q (iB hm Q (λh2 hm=>?_) (λh2 hm=>?_))))))))
 ·refine aN 1 Q (SX Q Q (bZ Q nM bY Q Q Q Q) (s_wk 6 [some 1,some 1,none] Q (aE 5 Q ?_)));obtain rfl:=OJ hm;exact EndsS.cellR _ TK Q Q Q Q Q (.d _)
 refine bD 2 Q (bM follows ?_);iterate 2 (refine DA [0,1] TK Q ?_)
 refine DX [0,1] Q Q (aO TK Q Q Q) (GE hm λg3 hm=>DX [0,1] Q Q (tD (f:=D.bool) (x:=false) TK Q Q iE Q Q Q Q Q g3 Q) ?_);iterate 2 (refine DA [0,1] TK Q ?_)
 refine DX [0,1] Q Q (aO TK Q Q Q) (GE hm λg4 hm=>DX [0,1] Q Q (tD (f:=(D.int .i64)) (x:=(0:Int)) TK Q Q iS Q Q Q Q Q g4 Q) (DX [0,1] Q Q (bZ Q nM bY Q Q Q Q) ?_));refine DT ?_ (by kernel_rfl);refine aE 4 Q ?_;obtain rfl:=OJ hm;exact EndsS.cellR _ TK Q Q Q Q Q (.d _)
theorem rQ:∀ (fu:Nat) {p0:Ab} {p1:(List Bool)} {r:Bool} (hm:cJ fu p0 p1=some r),RetN TP 47 [p0.enc,.sl 1 (p1.map D.bool)] (.bool (r)):=by
 intro fu
 induction fu with
 | zero=>
  intro p0 p1 r hm;unfold cJ at hm;cases hm
 | succ fu ih=>
  intro p0 p1 r hm;refine .unit (aM (bB Q) func47 Q ntmps47 Q Q (λwX gX=>?_)) Q;unfold cJ at hm;refine WN [0,1] Q Q (aQ 1 Q (cO 0 Q Q Q (aJ 3 Q (bN hm (λ_=>[]) (λ_=>[]) [] [] Q (λz1 hm hz1=>?_) (λj hm=>?_)))))
  ·refine bS 11 Q (bL hm Q (λh2 hm=>?_) (λh2 hm=>?_))
   ·refine aH 6 Q (IE hm λv3 hm hz=>?_);rw [hz1 _ hz] at hm;exact WR (aP hm Q)
   refine bD 5 Q (bL hm Q (λh4 hm=>?_) (λh4 hm=>?_))
   ·refine aZ hm (λx5=>([(4,.d (.bool (x5)))])) (λx5=>[]) [4] [] Q (λz6 hm=>?_) (λx5 hm=>?_)
    ·refine aQ 4 Q (SB TK Q (λq7 hq7=>?_));cases q7
     ·replace hm:=JF hq7 hm;exact aE 15 Q (bF [0] hm Q Q)
     replace hm:=JT hq7 hm;refine aG 3 Q (SX Q Q (aO TK Q Q Q) (aG 2 Q (SB TK Q (λq8 hq8=>?_))));cases q8
     ·replace hm:=JF hq8 hm;exact aE 8 Q (bF [0] hm Q Q)
     replace hm:=JT hq8 hm;exact aG 3 Q (VE hm λe9 he9 hm=>SX Q Q (dH TK Q Q Q Q he9) (aE 4 Q (bF [0] hm Q Q)))
    refine WN [4] Q Q (aH 2 Q (IE hm λv10 hm hz=>?_));rw [hz1 _ hz] at hm;exact WR (aP hm Q)
   refine bD 5 Q (bL hm Q (λh11 hm=>?_) (λh11 hm=>?_))
   ·refine aZ hm (λx12=>([(4,.d (.bool (x12)))])) (λx12=>[]) [4] [] Q (λz13 hm=>?_) (λx12 hm=>?_)
    ·refine aQ 3 Q (SX Q Q (aO TK Q Q Q) (aG 1 Q (SB TK Q (λq14 hq14=>?_))));cases q14
     ·replace hm:=JF hq14 hm;exact aE 10 Q (bF [0] hm Q Q)
     replace hm:=JT hq14 hm;exact aG 2 Q (VE hm λe15 he15 hm=>SX Q Q (lZ TK Q Q Q Q he15 (Ab.Ag _)) (aG 2 Q (c_N hm (ih ·) Q Q Q Q λr16 hm=>aE 4 Q (bF [0] hm Q Q))))
    refine WN [4] Q Q (aH 2 Q (IE hm λv17 hm hz=>?_));rw [hz1 _ hz] at hm;exact WR (aP hm Q)
   refine aZ hm (λx18=>([(44,.d (.bool (x18)))])) (λx18=>[]) [44] [1,2] Q (λz19 hm=>?_) (λx18 hm=>?_)
   ·refine bS 5 Q (bL hm Q (λh20 hm=>?_) (λh20 hm=>?_))
    ·exact aH 1 Q (bF [0] hm Q Q)
    exact aH 4 Q (bF [0] hm Q Q)
   refine WN [1,2,44] Q Q (bR hm Q (λh21 hm=>?_) (λh21 hm=>?_))
   ·refine bN hm (λ_=>[]) (λ_=>[]) [] [2] Q (λz22 hm hz22=>?_) (λj hm=>?_)
    ·refine bS 5 Q (bJ hm (λi24=>([(5,.d (.int .i64 i24))])) (λi24=>[]) [5] [1,2] [0] Q k0 Q Q Q Q Q (λi24 z25 hm hz25=>WN [1,2,5] Q Q (aQ 5 Q (SX Q Q (aO TK Q Q Q) (aJ 3 Q (bL hm Q (λh26 hm=>?_) (λh26 hm=>?_)))))))
     ·refine bD 4 Q (bM follows ?_);iterate 3 (refine DA [0] TK Q ?_)
      refine VE hm λe27 he27 hm=>DX [0] Q Q (lZ TK Q Q Q Q he27 (Ab.Ag _)) ?_;iterate 2 (refine DA [0] TK Q ?_)
      refine xZ [0] hm (ih ·) Q Q Q Q λr28 hm=>?_;iterate 4 (refine DA [0] TK Q ?_)
      refine DT ?_ (by kernel_rfl);refine aJ 2 Q (WN [1,2,5,64] Q Q (bR hm Q (λh29 hm=>?_) (λh29 hm=>?_)))
      ·refine aH 10 Q (IE hm λv30 hm hz=>?_);rw [hz25 _ hz] at hm;refine WR (bK 1 Q (IE hm λv31 hm hz=>?_));rw [hz22 _ hz] at hm;refine WR (bK 1 Q (IE hm λv32 hm hz=>?_));rw [hz1 _ hz] at hm;exact WR (aP hm Q)
      exact aN 5 Q (GE hm λg33 hm=>SX Q Q (bW Q Q Q Q g33) (aE 2 Q (bT [0] hm Q Q)))
     refine aH 2 Q (IE hm λv34 hm hz=>?_);rw [hz25 _ hz] at hm;exact WX (bK 1 Q (bT [0] hm Q Q))
    refine WN [2] Q Q (aH 9 Q (IE hm λv35 hm hz=>?_));rw [hz1 _ hz] at hm;exact WR (aP hm Q)
   exact aH 2 Q (bT [0] hm Q Q)
  exact WN [] Q Q (aH 5 Q (aP hm Q))
theorem tQ {p0:Ab} {p1:(List Bool)} {r:Bool} (hm:jN p0 p1=some r):RetN TP 47 [p0.enc,.sl 1 (p1.map D.bool)] (.bool (r)):=rQ bA hm
theorem tO {p0:Program} {p1:Machine} {r:Bool} (hm:hM p0 p1=some r):RetN TP 53 [p0.enc,p1.enc] (.bool (r)):=by
 refine .unit (aM (bB Q) func53 Q ntmps53 Q Q (λwX gX=>?_)) Q;unfold hM at hm;refine WN [0,1] Q Q (aQ 1 Q (cO 0 Q Q Q (cO 1 Q Q Q (aJ 4 Q (aZ hm (λx1=>([(26,.d (.bool (x1)))])) (λx1=>[]) [26] [2,3] Q (λz2 hm=>?_) (λx1 hm=>?_))))))
 ·refine aQ 2 Q (c_N hm (mG ·) Q Q Q Q λr3 hm=>aG 1 Q (SB TK Q (λq4 hq4=>?_)));cases q4
  ·replace hm:=lA hq4 hm;refine aG 2 Q (SX Q Q (aO TK Q Q Q) (aG 2 Q (SX Q Q (aO TK Q Q Q) (aG 2 Q (SB TK Q (λq5 hq5=>?_))))));cases q5
   ·replace hm:=lA hq5 hm;exact aG 2 Q (SX Q Q (aO TK Q Q Q) (aG 2 Q (SX Q Q (aO TK Q Q Q) (aE 3 Q (bF [0,1] hm Q Q)))))
   replace hm:=kZ hq5 hm;exact aE 9 Q (bF [0,1] hm Q Q)
  replace hm:=kZ hq4 hm;exact aE 18 Q (bF [0,1] hm Q Q)
 refine WN [2,3,26] Q Q (bR hm Q (λh6 hm=>?_) (λh6 hm=>?_))
 ·exact aH 6 Q (aP hm Q)
 refine bD 2 Q (bN hm (λ_=>[]) (λ_=>[]) [] [] Q (λz7 hm hz7=>?_) (λj hm=>?_))
 ·refine bS 5 Q (bJ hm (λi9=>([(5,.d (.int .i64 i9))])) (λi9=>[]) [5] [2,3] [0,1] Q k0 Q Q Q Q Q (λi9 z10 hm hz10=>WN [2,3,5] Q Q (aQ 5 Q (SX Q Q (aO TK Q Q Q) (aJ 3 Q (bL hm Q (λh11 hm=>?_) (λh11 hm=>?_)))))))
  ·refine bD 4 Q (aZ hm (λx12=>([(53,.d (.bool (x12)))])) (λx12=>[]) [53] [2,3,5] Q (λz13 hm=>?_) (λx12 hm=>?_))
   ·refine nX follows ?_;iterate 3 (refine DA [0,1] TK Q ?_)
    refine VE hm λe14 he14 hm=>DX [0,1] Q Q (dH TK Q Q Q Q he14) ?_;iterate 2 (refine DA [0,1] TK Q ?_)
    refine d_b [0,1] TK Q (λq15 hq15=>?_);cases q15
    ·replace hm:=JF hq15 hm;iterate 3 (refine DA [0,1] TK Q ?_)
     refine VE hm λe16 he16 hm=>DX [0,1] Q Q (dH TK Q Q Q Q he16) ?_;iterate 4 (refine DA [0,1] TK Q ?_)
     refine VE hm λe17 he17 hm=>DX [0,1] Q Q (dH TK Q Q Q Q he17) ?_;iterate 4 (refine DA [0,1] TK Q ?_)
     refine DT ?_ (by kernel_rfl);exact aE 1 Q (bF [0,1] hm Q Q)
    replace hm:=JT hq15 hm;iterate 13 (refine DA [0,1] TK Q ?_)
    refine DT ?_ (by kernel_rfl);exact aE 1 Q (bF [0,1] hm Q Q)
   refine WN [2,3,5,53] Q Q (bR hm Q (λh18 hm=>?_) (λh18 hm=>?_))
   ·refine aH 7 Q (IE hm λv19 hm hz=>?_);rw [hz10 _ hz] at hm;refine WR (bK 1 Q (IE hm λv20 hm hz=>?_));rw [hz7 _ hz] at hm;exact WR (aP hm Q)
   exact aN 5 Q (GE hm λg21 hm=>SX Q Q (bW Q Q Q Q g21) (aE 2 Q (bT [0,1] hm Q Q)))
  refine aH 2 Q (IE hm λv22 hm hz=>?_);rw [hz10 _ hz] at hm;exact WX (bK 1 Q (bT [0,1] hm Q Q))
 exact WN [] Q Q (aH 5 Q (aP hm Q))
theorem tN {p0:Program} {r:Machine} (hm:hL p0=some r):RetD TP 54 [p0.enc] (r.enc):=by
 refine .of (mv:=λ_=>false) (aM (bB Q) func54 Q ntmps54 Q Q (λwX gX=>?_));unfold hL at hm;refine WN [0] Q Q (aQ 1 Q (cO 0 Q Q Q (dF 1 Q Q bY Q (dC 1 [some 1,some 1,none] Q Q (aG 4 Q (c_D hm (mF ·) Q Q Q Q λr1 hm=>dF 2 Q Q bY Q (dC 2 [some 1,some 1,none] Q Q (aE 14 Q ?_))))))));obtain rfl:=OJ hm;exact EndsS.cellR _ TK Q Q Q Q Q (.d _)
theorem tM {p0:Program} {p1:Machine} {p2:(List Bool)} {r:Machine} (hm:dU p0 p1 p2=some r):RetD TP 34 [p0.enc,p1.enc,.sl 1 (p2.map D.bool)] (r.enc):=by
 refine .of (mv:=λ_=>false) (aM (bB Q) func34 Q ntmps34 Q Q (λwX gX=>?_));unfold dU at hm;refine WN [0,1,2] Q Q (aQ 1 Q (cO 0 Q Q Q (cO 1 Q Q Q (dF 2 Q Q bY Q (dC 2 [some 1,some 1,none] Q Q (aJ 3 Q (aZ hm (λx1=>([(21,.d (.bool (x1)))])) (λx1=>[]) [21] [2,3,4,6] Q (λz2 hm=>?_) (λx1 hm=>?_))))))))
 ·refine aQ 3 Q (c_N hm (tO ·) Q Q Q Q λr3 hm=>aG 1 Q (SB TK Q (λq4 hq4=>?_)));cases q4
  ·replace hm:=JB hq4 hm;exact aE 4 Q (bF [0,1,2] hm Q Q)
  replace hm:=JA hq4 hm;exact aE 4 Q (bF [0,1,2] hm Q Q)
 refine WN [2,3,4,6,21] Q Q (bR hm Q (λh5 hm=>?_) (λh5 hm=>?_))
 ·refine aN 2 Q (c_D hm (tN ·) Q Q Q Q λr6 hm=>aE 5 Q ?_);obtain rfl:=OJ hm;exact EndsS.cellR _ TK Q Q Q Q Q (.d _)
 refine aN 3 Q (tJ (f:=D.bool) 3 [] ([]:List Bool) TK Q Q Q iE Q Q Q Q Q (aG 2 Q (GE hm λg7 hm=>mD (f:=D.bool) p1.vars TK Q Q iE Q Q Q Q Q (λh=>absurd h (zQV _)) Q mB g7 Q Q (aG 4 Q (tJ (f:=(D.int .i64)) 4 [] ([]:List Int) TK Q Q Q iS Q Q Q Q Q (aG 2 Q (GE hm λg8 hm=>mD (f:=(D.int .i64)) p1.counts TK Q Q iS Q Q Q Q Q (λh=>absurd h (zQV _)) Q mB g8 Q Q (aJ 3 Q (WN [2,3,6,7,8] Q Q (aZ hm (λb9=>([(7,.msl 3 1 0 b9.length)])) (λb9=>([(3,.flat 4 1 (b9.map D.bool))])) [7] [3,6,8] Q (λz10 hm=>?_) (λb9 hm=>?_)))))))))))
 ·refine bS 5 Q (bJ hm (λ(i14,b15)=>([(7,.msl 3 1 0 b15.length),(9,.d (.int .i64 i14))])) (λ(i14,b15)=>([(3,.flat 4 1 (b15.map D.bool))])) [7,9] [2,3,6,8] [0,1,2,3,4] Q k0 Q Q Q Q Q (λs z16 hm hz16=>?_));obtain⟨i14,b15⟩:=s;refine WN [2,3,6,7,8,9] Q Q (bS 8 Q (bL hm Q (λh17 hm=>?_) (λh17 hm=>?_)))
  ·refine aN 9 Q (SX Q Q (aO TK Q Q Q) (aG 1 Q (SB TK Q (λq18 hq18=>?_))));cases q18
   ·replace hm:=JF hq18 hm;exact aG 5 Q (VE hm λe19 he19 hm=>SX Q Q (eY TK Q Q Q Q he19 Q) (nC (x':=false) TK Q Q Q Q Q he19.2 Q Q Q (eH 7 (b15.set i14.toNat false).length Q List.length_set.symm (eH 38 (b15.set i14.toNat false).length Q List.length_set.symm (aJ 3 Q (WN [2,3,6,7,8,9] Q Q (aN 2 Q (GE hm λg20 hm=>SX Q Q (bW Q Q Q Q g20) (aE 2 Q (bT [0,1,2,3,4] hm Q Q))))))))))
   replace hm:=JT hq18 hm;refine aG 2 Q (VE hm λe21 he21 hm=>SX Q Q (dH TK Q Q Q Q he21) (aG 2 Q (VE hm λe22 he22 hm=>SX Q Q (eY TK Q Q Q Q he22 Q) (nC (x':=e21) TK Q Q Q Q Q he22.2 Q Q Q (eH 7 (b15.set i14.toNat e21).length Q List.length_set.symm (eH 38 (b15.set i14.toNat e21).length Q List.length_set.symm (aJ 3 Q (WN [2,3,6,7,8,9] Q Q (aN 2 Q (GE hm λg23 hm=>SX Q Q (bW Q Q Q Q g23) ?_))))))))));exact aE 2 Q (bT [0,1,2,3,4] hm Q Q)
  refine aH 2 Q (IE hm λv24 hm hz=>?_);rw [hz16 _ hz] at hm;exact WX (bK 1 Q (bF [0,1,2,3,4] hm Q Q))
 refine WN [3,6,7,8] Q Q (aZ hm (λ(b25,b26)=>([(7,.msl 3 1 0 b25.length),(8,.msl 4 1 0 b26.length)])) (λ(b25,b26)=>([(3,.flat 4 1 (b25.map D.bool)),(4,.flat 3 1 (b26.map (D.int .i64)))])) [7,8] [6] Q (λz27 hm=>?_) (λj hm=>?_))
 ·refine bS 5 Q (bJ hm (λ(i32,b33,b34)=>([(7,.msl 3 1 0 b33.length),(8,.msl 4 1 0 b34.length),(10,.d (.int .i64 i32))])) (λ(i32,b33,b34)=>([(3,.flat 4 1 (b33.map D.bool)),(4,.flat 3 1 (b34.map (D.int .i64)))])) [7,8,10] [3,6] [0,1,2,3,4] Q k0 Q Q Q Q Q (λs z35 hm hz35=>?_));obtain⟨i32,b33,b34⟩:=s;refine WN [3,6,7,8,10] Q Q (aQ 5 Q (SX Q Q (aO TK Q Q Q) (aJ 3 Q (bL hm Q (λh36 hm=>?_) (λh36 hm=>?_)))))
  ·refine aN 8 Q (VE hm λe37 he37 hm=>SX Q Q (dH TK Q Q Q Q he37) (aG 1 Q (dF 5 Q Q kH Q (dC 5 [none,none,none,none,none,some 3] Q Q (aJ 3 Q (WN [3,6,7,8,10,11] Q Q (aN 4 Q (BE hm λr38 hr38 hm=>SX Q Q (RN Q Q (SC (.d _) (SC (fT Q) SN)) (tQ hr38)) (aJ 3 Q (aZ hm (λ(value39,b40)=>([(8,.msl 4 1 0 b40.length),(12,.d (.bool (value39)))])) (λ(value39,b40)=>([(4,.flat 3 1 (b40.map (D.int .i64)))])) [8,12] [3,6,7,10,11] Q (λz41 hm=>?_) (λj hm=>?_)))))))))))
   ·refine bS 6 Q (bL hm Q (λh42 hm=>?_) (λh42 hm=>?_))
    ·refine bD 4 Q (aZ hm (λn43=>([(13,.d (.int .i64 n43))])) (λn43=>[]) [13] [3,6,7,8,10,11] Q (λz44 hm=>?_) (λn43 hm=>?_))
     ·refine bS 4 Q (bR hm Q (λh45 hm=>?_) (λh45 hm=>?_))
      ·refine gQ follows ?_;iterate 2 (refine DA [0,1,2,3,4,5] TK Q ?_)
       refine VE hm λe46 he46 hm=>DX [0,1,2,3,4,5] Q Q (eY TK Q Q Q Q he46 Q) (DX [0,1,2,3,4,5] Q Q (mZ TK Q Q Q Q he46.2 Q) (GE hm λg47 hm=>DX [0,1,2,3,4,5] Q Q (bW Q Q Q Q g47) ?_));iterate 2 (refine DA [0,1,2,3,4,5] TK Q ?_)
       refine DX [0,1,2,3,4,5] Q Q (rd_min Q Q Q Q) ?_;refine DT ?_ (by kernel_rfl);exact aE 2 Q (bF [0,1,2,3,4,5] hm Q Q)
      exact aH 1 Q (bF [0,1,2,3,4,5] hm Q Q)
     exact WN [3,6,7,8,10,11,13] Q Q (aN 4 Q (VE hm λe48 he48 hm=>SX Q Q (eY TK Q Q Q Q he48 Q) (nC (x':=n43) TK Q Q Q Q Q he48.2 Q Q Q (eH 8 (b34.set i32.toNat n43).length Q List.length_set.symm (eH 79 (b34.set i32.toNat n43).length Q List.length_set.symm (aJ 2 Q (WN [3,6,7,8,10,11,13] Q Q (aH 7 Q (bF [0,1,2,3,4,5] hm Q Q)))))))))
    exact aH 1 Q (bF [0,1,2,3,4,5] hm Q Q)
   obtain⟨value39,b40⟩:=j;exact WN [3,6,7,8,10,11,12] Q Q (aN 5 Q (VE hm λe49 he49 hm=>SX Q Q (eY TK Q Q Q Q he49 Q) (nC (x':=value39) TK Q Q Q Q Q he49.2 Q Q Q (eH 7 (b33.set e37.var.toNat value39).length Q List.length_set.symm (eH 87 (b33.set e37.var.toNat value39).length Q List.length_set.symm (aJ 3 Q (WN [3,6,7,8,10] Q Q (aN 2 Q (GE hm λg50 hm=>SX Q Q (bW Q Q Q Q g50) (aE 2 Q (bT [0,1,2,3,4] hm Q Q)))))))))))
  refine aH 2 Q (IE hm λv51 hm hz=>?_);rw [hz35 _ hz] at hm;exact WX (bK 1 Q (bF [0,1,2,3,4] hm Q Q))
 obtain⟨b25,b26⟩:=j;refine WN [6,7,8] Q Q (aN 3 Q (SX Q Q (hO Q nM bY Q Q Q Q) (aJ 3 Q (WN [6] Q Q (aH 1 Q ?_)))));obtain rfl:=OJ hm;exact EndsS.cellR _ TK Q Q Q Q Q (pQ (.cons (fT Q) Q (.cons (fT Q) Q (.cons (.d _) Q .nil))))
theorem qA {p0:Program} {p1:(List (List Bool))} {p2:(List Int)} {r:Machine} (hm:eF p0 p1 p2=some r):RetD TP 17 [p0.enc,.sl 1 (p1.map (λ(l:List Bool)=>D.sl 1 (l.map D.bool))),.sl 1 (p2.map (D.int .i64))] (r.enc):=by
 refine .of (mv:=λ_=>false) (aM (bB Q) func17 Q ntmps17 Q Q (λwX gX=>?_));unfold eF at hm;refine WN [0,1,2] Q Q (aQ 1 Q (cO 0 Q Q Q (dF 1 Q Q bY Q (dC 1 [some 1,some 1,none] Q Q (aG 4 Q (c_D hm (mF ·) Q Q Q Q λr1 hm=>dF 2 Q Q bY Q (dC 2 [some 1,some 1,none] Q Q (aJ 3 Q (aZ hm (λ(c2,c3,c4)=>[]) (λ(c2,c3,c4)=>([(2,.box 42 [.d (.sl 1 (c2.map D.bool)),.d (.sl 1 (c3.map (D.int .i64))),.d (.bool (c4))])])) [] [6,7] Q (λz5 hm=>?_) (λj hm=>?_))))))))))
 ·refine bS 5 Q (bJ hm (λ(i11,c12,c13,c14)=>([(8,.d (.int .i64 i11))])) (λ(i11,c12,c13,c14)=>([(2,.box 42 [.d (.sl 1 (c12.map D.bool)),.d (.sl 1 (c13.map (D.int .i64))),.d (.bool (c14))])])) [8] [1,2,3,6,7] [0,1,2] Q k0 Q Q Q Q Q (λs z15 hm hz15=>?_));obtain⟨i11,c12,c13,c14⟩:=s;refine WN [1,2,3,6,7,8] Q Q (aQ 4 Q (SX Q Q (aO TK Q Q Q) (aJ 3 Q (bL hm Q (λh16 hm=>?_) (λh16 hm=>?_)))))
  ·refine bD 4 Q (aZ hm (λx17=>([(30,.d (.bool (x17)))])) (λx17=>[]) [30] [1,2,3,6,7,8] Q (λz18 hm=>?_) (λx17 hm=>?_))
   ·refine aQ 3 Q (VE hm λe19 he19 hm=>SX Q Q (dH TK Q Q Q Q he19) (aG 2 Q (SB TK Q (λq20 hq20=>?_))));cases q20
    ·replace hm:=JF hq20 hm;exact aE 9 Q (bF [0,1,2] hm Q Q)
    replace hm:=JT hq20 hm;exact aG 2 Q (VE hm λe21 he21 hm=>SX Q Q (dH TK Q Q Q Q he21) (aG 2 Q (SX Q Q (aO TK Q Q Q) (aE 3 Q (bF [0,1,2] hm Q Q)))))
   refine WN [1,2,3,6,7,8,30] Q Q (bR hm Q (λh22 hm=>?_) (λh22 hm=>?_))
   ·refine gQ follows ?_;iterate 5 (refine DA [0,1,2] TK Q ?_)
    refine VE hm λe23 he23 hm=>DX [0,1,2] Q Q (dH TK Q Q Q Q he23) (DA [0,1,2] TK Q (VE hm λe24 he24 hm=>DX [0,1,2] Q Q (dH TK Q Q Q Q he24) (DA [0,1,2] TK Q (yA [0,1,2] hm (tM ·) Q Q Q Q λr25 hm=>?_))));refine DT ?_ (by kernel_rfl);exact aG 6 Q (GE hm λg26 hm=>SX Q Q (bW Q Q Q Q g26) (aE 2 Q (bT [0,1,2] hm Q Q)))
   exact aN 5 Q (GE hm λg27 hm=>SX Q Q (bW Q Q Q Q g27) (aE 2 Q (bT [0,1,2] hm Q Q)))
  refine aH 2 Q (IE hm λv28 hm hz=>?_);rw [hz15 _ hz] at hm;exact WX (bK 1 Q (bF [0,1,2] hm Q Q))
 obtain⟨c2,c3,c4⟩:=j;refine WN [6,7] Q Q (aH 6 Q ?_);obtain rfl:=OJ hm;exact EndsS.cellR _ TK Q Q Q Q Q (.d _)
theorem jS {p0:Program} {p1:(List (List Bool))} {p2:(List Int)} {r:Bool} (hm:cV p0 p1 p2=some r):Ret TP 5 [] (λ_=>false) ([p0.enc,.sl 1 (p1.map (λ(l:List Bool)=>D.sl 1 (l.map D.bool))),.sl 1 (p2.map (D.int .i64))].map .d) (.d (.bool (r))) []:=by
 refine aM (bB Q) func5 Q ntmps5 Q Q (λwX gX=>?_);unfold cV at hm;refine WN [0,1,2] Q Q (aQ 1 Q (cO 0 Q Q Q (aJ 4 Q (aZ hm (λx1=>([(15,.d (.bool (x1)))])) (λx1=>[]) [15] [1,2,3] Q (λz2 hm=>?_) (λx1 hm=>?_)))))
 ·refine aQ 3 Q (BE hm λr3 hr3 hm=>SX Q Q (RN Q Q (lH Q) ((vF hr3).args ((.cons (.refl _) (.cons (.nil _) (.cons (.refl _) .nil)))))) (aG 1 Q (SB TK Q (λq4 hq4=>?_))));cases q4
  ·replace hm:=JB hq4 hm;exact aG 1 Q (SX Q Q (aO TK Q Q Q) (aE 3 Q (bF [0] hm Q Q)))
  replace hm:=JA hq4 hm;exact aE 5 Q (bF [0] hm Q Q)
 refine WN [1,2,3,15] Q Q (bR hm Q (λh5 hm=>?_) (λh5 hm=>?_))
 ·exact aN 1 Q (BE hm λr6 hr6 hm=>SX Q Q (RN Q Q SN (mL hr6)) (aE 5 Q (aP hm Q)))
 refine bD 2 Q (aZ hm (λx7=>([(6,.d (.bool (x7)))])) (λx7=>[]) [6] [] Q (λz8 hm=>?_) (λx7 hm=>?_))
 ·refine nX follows ?_;iterate 3 (refine DA [0] TK Q ?_)
  refine yA [0] hm (jD ·) Q Q Q Q λr9 hm=>?_;iterate 3 (refine DA [0] TK Q ?_)
  refine yA [0] hm (qA ·) Q Q Q Q λr10 hm=>xZ [0] hm (nE ·) Q Q Q Q λr11 hm=>d_b [0] TK Q (λq12 hq12=>?_);cases q12
  ·replace hm:=JB hq12 hm;iterate 2 (refine DA [0] TK Q ?_)
   refine DT ?_ (by kernel_rfl);exact aE 2 Q (bF [0] hm Q Q)
  replace hm:=JA hq12 hm;refine BE hm λr13 hr13 hm=>DX [0] Q Q (RN Q Q SN (mL hr13)) (DA [0] TK Q ?_);refine DT ?_ (by kernel_rfl);exact aE 2 Q (bF [0] hm Q Q)
 exact WN [6] Q Q (aH 1 Q (aP hm Q))
end Go.Proofs.YtciilodpnepdbaaDoor
set_option linter.unusedVariables false
set_option linter.unusedSimpArgs false
namespace Go.Proofs.YtciilodpnepdbaaDoor
open Go Go.TL
@[simp] theorem aC {α:Type} {p:Prop} [Decidable p] {k:Option α} (h:p):aF p k=k:=if_pos h
@[simp] theorem aA {α β:Type} (a:α) (k:α->Option β):aB (some a) k=k a:=rfl
@[simp] theorem bI {α β:Type} (a:α) (k:α->Option β):cH (some (.inl a)) k=k a:=rfl
@[simp] theorem aX {α β:Type} (b:β) (k:α->Option β):cH (some (.inr b)) k=some b:=rfl
@[simp] theorem bG {α β:Type} (b:β):(aL (some b):Option (α ⊕ β))=some (.inr b):=rfl
theorem aR {α β:Type} {l:List α} {i:Nat} {e:α} {k:α->Option β} (h:l[i]?=some e):bC l (i:Int) k=k e:=by simp [bC,h]
theorem dL {α β:Type} {l:List α} {i:Int} {e:α} {k:α->Option β} (h0:0<=i) (h:l[i.toNat]?=some e):bC l i k=k e:=by simp [bC,h0,h]
@[simp] theorem ite_bindM {α β:Type} {p:Prop} [Decidable p] (a b:α) (k:α->Option β):aB (if p then some a else some b) k=k (if p then a else b):=by split<;>rfl
variable {σ ρ:Type}
theorem vY {f:σ->Option (σ ⊕ ρ)} (B:Nat->σ) {o:ρ}:∀ (n k:Nat),(∀ i,k<=i->i < k+n->f (B i)=some (.inl (B (i+1))))->f (B (k+n))=some (.inr o)->hP f (n+1) (B k)=some o
 | 0,k,_,he=>by simp only [Nat.add_zero] at he;simp [hP,he]
 | n+1,k,hf,he=>by
  simp only [hP];rw [hf k (zQW _) (by omega)];exact vY B n (k+1) (λi h1 h2=>hf i (by omega) (by omega)) (by rw [show k+1+n=k+(n+1) by omega];exact he)
theorem jR {f:σ->Option (σ ⊕ ρ)} (B:Nat->σ) (n:Nat) {o:ρ} {s:σ} (hs:s=B 0) (hn:n<=9223372036854775807) (hf:∀ i,i < n->f (B i)=some (.inl (B (i+1)))) (he:f (B n)=some (.inr o)):bE f s=some o:=by
 subst hs;exact vU (vY B n 0 (λi _ h=>hf i (by omega)) (by rw [Nat.zero_add];exact he)) (by unfold bA;omega)
theorem vT {f : Int -> Option (Int ⊕ ρ)} (n : Nat) (c : Nat -> Option ρ) (o : ρ) (hn : n <= 9223372036854775807) (hf : ∀ i, i < n -> f (i : Int) = match c i with
  | some r => some (.inr r)
  | none => some (.inl ((i : Int) + 1))) (he : f (n : Int) = some (.inr o)) : bE f 0 = some (((List.range n).findSome? c).getD o) := by
 cases h:(List.range n).findSome? c with
 | none=>
  rw [List.findSome?_eq_none_iff] at h;refine jR (λi=>(i:Int)) n rfl hn (λi hi=>?_) he;rw [hf i hi,h i (List.mem_range.2 hi)];rfl
 | some r=>
  rw [List.findSome?_eq_some_iff] at h;obtain⟨l1,a,l2,h1,h2,h3⟩:=h
  have ha:l1.length=a/\a < n:=by
   have hlen:l1.length < (List.range n).length:=by rw [h1];simp
   have:(List.range n)[l1.length]?=some a:=by rw [h1];simp
   simp only [List.length_range] at hlen;simp [hlen] at this;exact⟨this,by omega⟩
  obtain⟨ha1,ha2⟩:=ha;refine jR (λi=>(i:Int)) a rfl (by omega) (λi hi=>?_) ?_
  ·have hm:i∈l1:=by
    have:(List.range n)[i]?=some i:=List.getElem?_range (by omega);rw [h1,List.getElem?_append_left (by omega)] at this;exact zQM this
   rw [hf i (by omega),h3 i hm];rfl
  rw [hf a ha2,h2];rfl
theorem qW {α β:Type} (l:List α) (c:Nat->Option β) (d:α->Option β) (h:∀ (i:Nat) (e:α),l[i]?=some e->c i=d e):(List.range l.length).findSome? c=l.findSome? d:=by
 induction l generalizing c with
 | nil=>rfl
 | cons x r ih=>
  rw [List.length_cons,List.range_succ_eq_map,List.findSome?_cons,List.findSome?_map,List.findSome?_cons,h 0 x rfl]
  cases d x with
  | some b=>rfl
  | none=>exact ih (c ∘ Nat.succ) λi e he=>h (i+1) e (by simpa using he)
theorem qAJ {α : Type} {f : Int -> Option (Int ⊕ ρ)} (l : List α) (d : α -> Option ρ) (o : ρ) (hn : l.length <= 9223372036854775807) (hf : ∀ (i : Nat) (e : α), l[i]? = some e -> f (i : Int) = match d e with
  | some r => some (.inr r)
  | none => some (.inl ((i : Int) + 1))) (he : f (l.length : Int) = some (.inr o)) : bE f 0 = some ((l.findSome? d).getD o) := by
 rw [vT l.length (λi=>(l[i]?).bind d) o hn (λi hi=>?_) he,qW l _ d (λi e he=>by simp [he])];rw [hf i l[i] (by simp),zQR hi];rfl
theorem nQ {α β:Type} (l:List α) (c:α->Bool) (v:β):l.findSome? (λe=>if c e=true then some v else none)=if l.any c=true then some v else none:=by
 induction l with
 | nil=>rfl
 | cons x r ih=>
  rw [List.findSome?_cons,List.any_cons,ih];cases c x<;>simp
theorem dZ {α:Type} {f:Int->Option (Int ⊕ ρ)} (l:List α) (c:α->Bool) (v o:ρ) (hn:l.length<=9223372036854775807) (hf:∀ (i:Nat) (e:α),l[i]?=some e->f (i:Int)=if c e=true then some (.inr v) else some (.inl ((i:Int)+1))) (he:f (l.length:Int)=some (.inr o)):bE f 0=some (if l.any c=true then v else o):=by
 rw [qAJ l (λe=>if c e=true then some v else none) o hn (λi e h=>by rw [hf i e h];cases c e<;>simp) he,nQ];split<;>rfl
theorem sR {f:Int->Option (Int ⊕ ρ)} (n:Nat) (c:Nat->Bool) (v o:ρ) (hn:n<=9223372036854775807) (hf:∀ i,i < n->f (i:Int)=if c i=true then some (.inr v) else some (.inl ((i:Int)+1))) (he:f (n:Int)=some (.inr o)):bE f 0=some (if (List.range n).any c=true then v else o):=by
 rw [vT n (λe=>if c e=true then some v else none) o hn (λi h=>by rw [hf i h];cases c i<;>simp) he,nQ];split<;>rfl
theorem jA {β:Type} {f:Int×β->Option ((Int×β) ⊕ ρ)} (n:Nat) (B:Nat->β) {o:ρ} {b:β} (hb:b=B 0) (hn:n<=9223372036854775807) (hf:∀ i,i < n->f ((i:Int),B i)=some (.inl ((i:Int)+1,B (i+1)))) (he:f ((n:Int),B n)=some (.inr o)):bE f (0,b)=some o:=
 jR (λi=>((i:Int),B i)) n (by rw [hb];rfl) hn (λi hi=>by rw [hf i hi];rfl) he
theorem qAK {β:Type} {f:Int×β->Option ((Int×β) ⊕ ρ)} (n:Nat) (B:Nat->β) (c:Nat->Bool) (v o:ρ) {b:β} (hb:b=B 0) (hn:n<=9223372036854775807) (hf:∀ i,i < n->(∀ j,j < i->c j=false)->f ((i:Int),B i)=if c i=true then some (.inr v) else some (.inl ((i:Int)+1,B (i+1)))) (he:(∀ j,j < n->c j=false)->f ((n:Int),B n)=some (.inr o)):bE f (0,b)=some (if (List.range n).any c=true then v else o):=by
 cases h:(List.range n).findIdx? c with
 | none=>
  rw [List.findIdx?_eq_none_iff] at h;have hall:∀ j,j < n->c j=false:=λj hj=>by simpa using h j (List.mem_range.2 hj)
  have hno:¬ (List.range n).any c=true:=by
   rw [zQU];rintro⟨j,hj,hc⟩;rw [hall j (List.mem_range.1 hj)] at hc;cases hc
  rw [if_neg hno];exact jA n B hb hn (λi hi=>by rw [hf i hi (λj hj=>hall j (by omega)),hall i hi];rfl) (he hall)
 | some k=>
  rw [List.findIdx?_eq_some_iff_getElem] at h;obtain⟨hk,h1,h2⟩:=h;simp only [List.length_range] at hk;simp only [List.getElem_range] at h1;have hb':∀ j,j < k->c j=false:=λj hj=>by have:=h2 j hj;simpa using this
  have hyes:(List.range n).any c=true:=zQU.2 ⟨k,List.mem_range.2 hk,h1⟩;rw [if_pos hyes];exact jA k B hb (by omega) (λi hi=>by rw [hf i (by omega) (λj hj=>hb' j (by omega)),hb' i hi];rfl) (by rw [hf k hk hb',h1];rfl)
theorem cD {i n:Nat} (h:i < n) (hn:n<=9223372036854775807):I64 ((i:Int)+1):=by unfold I64;omega
structure Ai where
 state:Int
 rel:Int
 timer:Int
deriving DecidableEq,Inhabited
def Ai.ok (x:Ai):Prop:=I64 x.state/\I64 x.rel/\I64 x.timer
instance (x:Ai):Decidable (Ai.ok x):=by unfold Ai.ok;infer_instance
structure Aq where
 Ap:(List Ai)
 lies:(List Int)
deriving DecidableEq,Inhabited
section chk
end chk
end Go.Proofs.YtciilodpnepdbaaDoor
set_option linter.unusedVariables false
set_option linter.unusedSimpArgs false
set_option maxHeartbeats 400000
namespace Go.Proofs.YtciilodpnepdbaaDoor
open Go Go.TL
theorem xO {n:Nat} (h:n<=reachBytes):n<=140737488351232:=h
theorem gN {α:Type} (l:List α) (P:α->Bool):(l.any λi=>!P i)=!l.all P:=by simp [List.not_all_eq_any_not]
end Go.Proofs.YtciilodpnepdbaaDoor
set_option linter.unusedVariables false
set_option linter.unusedSimpArgs false
set_option maxHeartbeats 400000
set_option maxRecDepth 100000
namespace Go.Proofs.YtciilodpnepdbaaDoor
open Go Go.TL
theorem sQ {α:Type} {l:List α}:l.Nodup↔∀ a c,a < c->c < l.length->l[a]?≠l[c]?:=by
 unfold List.Nodup;rw [List.pairwise_iff_getElem];constructor
 ·intro h a c hac hc he;rw [zQR hc,zQR (show a < l.length by omega)] at he;exact h a c (by omega) hc hac (Option.some.inj he)
 intro h a c ha hc hac he;refine h a c hac hc ?_;rw [zQR hc,zQR ha,he]
def opB (v:List Bool) (op x:Int) (bs:List Bool):Bool:=
 if op=3 then decide (0<=x)&&v.getD x.toNat false
 else if op=4 then (match bs with|[]=>false|b :: _=>!b)
 else if op=5 then bs.all id
 else if op=6 then bs.any id
 else decide (op=2)
mutual
def evE (v:List Bool):Ab->Bool
 | ⟨op,x,l⟩=>opB v op x (evL v l)
def evL (v:List Bool):List Ab->List Bool
 | []=>[]
 | e :: r=>evE v e :: evL v r
end
mutual
def dpE:Ab->Nat
 | ⟨_,_,l⟩=>dpL l+1
def dpL:List Ab->Nat
 | []=>0
 | e :: r=>max (dpE e) (dpL r)
end
mutual
def szE:Ab->Nat
 | ⟨_,_,l⟩=>szL l+1
def szL:List Ab->Nat
 | []=>0
 | e :: r=>szE e+szL r
end
abbrev iZ:Nat:=9223372036854775807
mutual
def okE:Ab->Prop
 | ⟨_,_,l⟩=>l.length<=iZ/\okL l
def okL:List Ab->Prop
 | []=>True
 | e :: r=>okE e/\okL r
end
theorem zG (v:List Bool):∀ l,evL v l=l.map (evE v)
 | []=>by simp [evL]
 | e :: r=>by simp [evL,zG v r]
theorem lB (v:List Bool) (e:Ab):evE v e=opB v e.op e.var (e.args.map (evE v)):=by
 cases e with
 | mk a b c=>rw [evE,zG]
theorem dpL_le {d:Nat}:∀ {l:List Ab},dpL l<=d↔∀ e∈l,dpE e<=d
 | []=>by simp [dpL]
 | e :: r=>by rw [dpL,Nat.max_le,dpL_le (l:=r)];simp
theorem eX (e:Ab):dpE e=dpL e.args+1:=by
 cases e with
 | mk a b c=>rw [dpE]
theorem yL:∀ l:List Ab,szL l=(l.map szE).sum
 | []=>by simp [szL]
 | e :: r=>by simp [szL,yL r]
theorem kI (e:Ab):szE e=szL e.args+1:=by
 cases e with
 | mk a b c=>rw [szE]
theorem pC (a b:List Ab):szL (a++b)=szL a+szL b:=by simp [yL]
theorem yX:∀ {l:List Ab},okL l↔∀ e∈l,okE e
 | []=>by simp [okL]
 | e :: r=>by rw [okL,yX (l:=r)];simp
theorem okE_iff {e:Ab}:okE e↔e.args.length<=iZ/\∀ x∈e.args,okE x:=by
 cases e with
 | mk a b c=>rw [okE,yX]
theorem qAG {e:Ab} (h:Ab.Wf e):okE e:=by
 induction h with
 | mk x h0 h1 h2 g2 ih=>
  rw [okE_iff];exact⟨by have:=xO h2;unfold iZ;omega,ih⟩
theorem qFD (e:Ab):fZ e=some ⟨if e.op=3 then 112 else if e.op=4 then (if 0 < e.args.length then 113 else 120) else if e.op=5 then 114 else if e.op=6 then 115 else 120,e⟩:=by
 unfold fZ;by_cases h3:e.op=3
 ·rw [if_pos h3,if_pos h3]
 rw [if_neg h3,if_neg h3];by_cases h4:e.op=4
 ·rw [if_pos h4,if_pos h4];by_cases h:0 < e.args.length
  ·rw [if_pos (by omega),if_pos h]
  rw [if_neg (by omega),if_neg h]
 rw [if_neg h4,if_neg h4];by_cases h5:e.op=5
 ·rw [if_pos h5,if_pos h5]
 rw [if_neg h5,if_neg h5];by_cases h6:e.op=6
 ·rw [if_pos h6,if_pos h6]
 rw [if_neg h6,if_neg h6]
theorem sW (v:List Bool):∀ (fu:Nat) (e:Ab),dpE e<=fu->okE e->cN fu e v=some (evE v e)
 | 0,e,h,_=>by rw [eX] at h;omega
 | fu+1,e,h,ho=>by
  rw [eX] at h;have hd:∀ x∈e.args,dpE x<=fu:=dpL_le.1 (by omega);obtain⟨hl,hox⟩:=okE_iff.1 ho;unfold iZ at hl;have ih:∀ x∈e.args,cN fu x v=some (evE v x):=λx hx=>sW v fu x (hd x hx) (hox x hx);rw [lB];unfold cN opB;rw [qFD,aA];dsimp only;by_cases h3:e.op=3
  ·rw [if_pos h3,if_pos rfl,if_pos h3];by_cases h0:0<=e.var
   ·rw [if_pos h0,decide_eq_true h0,Bool.true_and];by_cases h1:e.var < (v.length:Int)
    ·have hx : v[e.var.toNat]? = some v[e.var.toNat] := zQR (by omega);rw [if_pos h1,dL h0 hx,aA,zQD,hx];rfl
    rw [if_neg h1, aA, zQD, List.getElem?_eq_none (by omega)];rfl
   rw [if_neg h0,decide_eq_false h0,Bool.false_and];rfl
  rw [if_neg h3,if_neg h3];by_cases h4:e.op=4
  ·rw [if_pos h4,if_pos h4];by_cases hz:0 < e.args.length
   ·rw [if_pos hz, if_neg (by decide), if_pos rfl];have hx:e.args[0]?=some e.args[0]:=zQR hz;rw [show (0:Int)=((0:Nat):Int) from rfl,aR hx,ih _ (List.getElem_mem hz),aA,bG,aX]
    cases e with
    | mk a b c=>
     cases c with
     | nil=>simp at hz
     | cons y r=>rfl
   rw [if_neg hz, if_neg (by decide), if_neg (by decide), if_neg (by decide), if_neg (by decide), bI, decide_eq_false (by omega)]
   cases e with
   | mk a b c=>
    cases c with
    | nil=>rfl
    | cons y r=>simp at hz
  rw [if_neg h4,if_neg h4];by_cases h5:e.op=5
  ·rw [if_pos h5, if_pos h5, if_neg (by decide), if_neg (by decide), if_pos rfl];rw [dZ e.args (λx=>!evE v x) (.inr (.inr false)) (.inl ()) hl (λi x hx=>?_) (by rw [if_neg (by omega)];rfl)]
   ·cases ha:(e.args.map (evE v)).all id with
    | true=>
     rw [if_neg (by
      rw [zQU];rintro ⟨x, hx, hc⟩;rw [zQT] at ha;have := ha _ (List.mem_map_of_mem hx);simp only [id] at this;rw [this] at hc
      cases hc)]
     rfl
    | false=>
     rw [if_pos (by
      rw [zQU];rw [List.all_eq_false] at ha;obtain ⟨y, hy, hc⟩ := ha;obtain ⟨x, hx, rfl⟩ := List.mem_map.1 hy
      exact ⟨x, hx, by simpa using hc⟩)]
     rfl
   have hi:=(zQQ.1 hx).1;rw [if_pos (by omega),aR hx,ih x (zQM hx),aA,aC (cD hi hl)];cases evE v x<;>simp
  rw [if_neg h5,if_neg h5];by_cases h6:e.op=6
  ·rw [if_pos h6, if_pos h6, if_neg (by decide), if_neg (by decide), if_neg (by decide), if_pos rfl];rw [dZ e.args (λx=>evE v x) (.inr (.inr true)) (.inl ()) hl (λi x hx=>?_) (by rw [if_neg (by omega)];rfl)]
   ·rw [List.any_map,show (id ∘ evE v)=evE v from rfl];show cH (cH (some (if e.args.any (evE v)=true then Sum.inr (Sum.inr true) else Sum.inl ())) _) _=_;cases e.args.any (evE v)
    ·rw [if_neg (by simp)];rfl
    rw [if_pos rfl];rfl
   have hi:=(zQQ.1 hx).1;rw [if_pos (by omega),aR hx,ih x (zQM hx),aA,aC (cD hi hl)];cases evE v x<;>simp
  rw [if_neg h6,if_neg h6,if_neg (by decide),if_neg (by decide),if_neg (by decide),if_neg (by decide),bI]
theorem qGE {e:Ab} (v:List Bool) (hd:dpE e<=bA) (ho:okE e):gS e v=some (evE v e):=by
 unfold gS oF;rw [sW v bA e hd ho,aA]
def dM (n:Int) (op x:Int) (k:Nat):Bool:=
 if op=1\/op=2 then decide (x=0/\k=0)
 else if op=3 then decide (0<=x/\x < n/\k=0)
 else if op=4 then decide (k=1/\x=0)
 else if op=5\/op=6 then decide (x=0)
 else false
mutual
def cM (n:Int):Ab->Bool
 | ⟨op,x,l⟩=>dM n op x l.length&&gL n l
def gL (n:Int):List Ab->Bool
 | []=>true
 | e :: r=>cM n e&&gL n r
end
theorem oC {n:Int}:∀ {l:List Ab},gL n l=true↔∀ e∈l,cM n e=true
 | []=>by simp [gL]
 | e :: r=>by rw [gL,zQA,oC (l:=r)];simp
theorem goodE_iff {n:Int} {e:Ab}:cM n e=true↔dM n e.op e.var e.args.length=true/\∀ x∈e.args,cM n x=true:=by
 cases e with
 | mk a b c=>rw [cM,zQA,oC]
def gE (n:Int) (d left:Int) (e:Ab):Prop:=cM n e=true/\d+(dpE e:Int)<=13/\(szE e:Int)<=left
instance (n d left:Int) (e:Ab):Decidable (gE n d left e):=by unfold gE;infer_instance
theorem uB {σ ρ:Type} {f:σ->Option (σ ⊕ ρ)} (P:ρ->Prop) (I:Nat->σ->Prop) {s:σ} (n:Nat) (hn:n<=iZ) (h0:I 0 s) (hs:∀ i,i < n->∀ s,I i s->(∃ s',f s=some (.inl s')/\I (i+1) s')\/(∃ o,f s=some (.inr o)/\P o)) (he:∀ s,I n s->∃ o,f s=some (.inr o)/\P o):∃ o,bE f s=some o/\P o:=by
 suffices h:∀ k i s,i+k=n->I i s->∃ o,hP f (k+1) s=some o/\P o by
  obtain⟨o,h1,h2⟩:=h n 0 s (by omega) h0;exact⟨o,vU h1 (by unfold bA iZ at *; omega),h2⟩
 intro k
 induction k with
 | zero=>
  intro i s hi hI;obtain⟨o,h1,h2⟩:=he s (by rw [show n=i by omega];exact hI);exact⟨o,by simp [hP,h1],h2⟩
 | succ k ih=>
  intro i s hi hI;rcases hs i (by omega) s hI with ⟨s',h1,h2⟩|⟨o,h1,h2⟩
  ·obtain ⟨o, h3, h4⟩ := ih (i + 1) s' (by omega) h2;exact⟨o,by rw [hP,h1];exact h3,h4⟩
  exact⟨o,by rw [hP,h1],h2⟩
theorem pN (n:Int):∀ (fu:Nat) (e:Ab) (d left:Int),14<=(fu:Int)+d->0 < fu->1<=d->d<=13->0<=left->left<=1000000->okE e->∃ k,cK fu e n d left=some (decide (gE n d left e),k)/\0<=k/\k<=left/\(gE n d left e->k=left - (szE e:Int))
 | 0,e,d,left,hfu,hp,_,_,_,_,_=>by omega
 | fu+1,e,d,left,hfu,hp,hd1,hd13,h0,hm,ho=>by
  obtain⟨hl,hox⟩:=okE_iff.1 ho;have hdp:=eX e;have hsz:=kI e;have hgd:=goodE_iff (n:=n) (e:=e);unfold cK;by_cases hx:12 < d\/left=0
  ·rw [if_pos (by simpa using hx)];have hno:¬ gE n d left e:=by unfold gE;omega
   exact⟨left,by rw [decide_eq_false hno],h0,by omega,λh=>absurd h hno⟩
  rw [if_neg (by simpa using hx), aC (by unfold I64; omega)]
  have args (hform : dM n e.op e.var e.args.length = true ↔ e.var = 0) (hform2 : 0 < e.args.length -> 0 < fu) : ∃ k, (if e.var = (0 : Int) then
    cH (
     bE (fun ((x27 : Int), (c28 : Int)) =>
      if x27 < (e.args.length : Int) then
       bC e.args x27 fun e31 =>
       aF (I64 (d + (1 : Int))) <|
       aB ((cK fu) e31 n (d + (1 : Int)) c28) fun (r34, r35) =>
       if (!(r34)) = true then
        aL (
         aL (
          some (false, r35)))
       else
        aF (I64 (x27 + (1 : Int))) <|
        some (.inl ((x27 + (1 : Int)), r35))
      else
       aL (
        some (.inl c28))) ((0 : Int), (left - (1 : Int)))) fun c22 =>
    some (true, c22)
   else
    some (false, (left - (1 : Int)))) = some (decide (gE n d left e), k) /\ 0 <= k /\ k <= left /\ (gE n d left e -> k = left - (szE e : Int)) := by
   by_cases hv:e.var=0
   ·rw [if_pos hv]
    have hval:gE n d left e↔(∀ x∈e.args,cM n x=true)/\(∀ x∈e.args,d+1+(dpE x:Int)<=13)/\(szL e.args:Int)<=left - 1:=by
     unfold gE;rw [hgd,hform,hdp,hsz]
     have hdl:d+((dpL e.args+1:Nat):Int)<=13↔∀ x∈e.args,d+1+(dpE x:Int)<=13:=by
      have h1:=dpL_le (l:=e.args) (d:=(12 - d).toNat);constructor
      ·intro h x hx;have:=h1.1 (by omega) x hx;omega
      intro h;have:=h1.2 (λx hx=>by have:=h x hx;omega);omega
     rw [hdl];constructor
     ·rintro⟨⟨_,a⟩,b,c⟩;exact⟨a,b,by omega⟩
     rintro⟨a,b,c⟩;exact⟨⟨hv,a⟩,b,by omega⟩
    obtain ⟨o, ho1, ho2⟩ := uB (f := fun ((x27 : Int), (c28 : Int)) =>
      if x27 < (e.args.length : Int) then
       bC e.args x27 fun e31 =>
       aF (I64 (d + (1 : Int))) <|
       aB ((cK fu) e31 n (d + (1 : Int)) c28) fun (r34, r35) =>
       if (!(r34)) = true then
        aL (
         aL (
          some (false, r35)))
       else
        aF (I64 (x27 + (1 : Int))) <|
        some (.inl ((x27 + (1 : Int)), r35))
      else
       aL (
        some (.inl c28))) (s := ((0 : Int), left - 1))
     (fun (o : Int ⊕ (Bool × Int)) => match o with
      | .inl c => gE n d left e /\ c = left - (szE e : Int)
      | .inr r => ¬ gE n d left e /\ r.1 = false /\ 0 <= r.2 /\ r.2 <= left)
     (fun i s => s.1 = (i : Int) /\ s.2 = left - 1 - (szL (e.args.take i) : Int) /\ 0 <= s.2 /\ ∀ x ∈ e.args.take i, gE n (d + 1) 1000000 x /\ cM n x = true /\ d + 1 + (dpE x : Int) <= 13) e.args.length hl ⟨rfl, by simp [szL], by show 0 <= left - 1; omega, by simp⟩ (fun i hi s hI => by
      obtain ⟨x27, c28⟩ := s;obtain ⟨h1, h2, h3, h4⟩ := hI;dsimp only at h1 h2 h3;subst h1;have hxi := zQR hi;have hmem := List.getElem_mem hi;dsimp only;rw [if_pos (by omega), aR hxi, aC (by unfold I64; omega)];obtain ⟨k, hk1, hk2, hk3, hk4⟩ := pN n fu e.args[i] (d + 1) c28 (by omega) (hform2 (by omega)) (by omega) (by omega) h3 (by omega) (hox _ hmem);rw [hk1, aA]
      have hsplit : szL (e.args.take (i + 1)) = szL (e.args.take i) + szE e.args[i] := by
       rw [List.take_add_one, hxi, pC];simp [szL]
      by_cases hV : gE n (d + 1) c28 e.args[i]
      ·left;rw [decide_eq_true hV, if_neg (by simp), aC (cD hi hl)];refine ⟨_, rfl, by push_cast; rfl, ?_, hk2, ?_⟩
       ·dsimp only;rw [hk4 hV, hsplit];omega
       intro x hx;rw [List.take_add_one, hxi] at hx;simp only [Option.toList_some, zQN, List.mem_singleton] at hx;rcases hx with hx | hx
       ·exact h4 x hx
       subst hx;exact ⟨⟨hV.1, hV.2.1, by have := hV.2.2; omega⟩, hV.1, hV.2.1⟩
      ·right;rw [decide_eq_false hV];simp only [Bool.not_false, if_true, bG];refine ⟨_, rfl, ?_, rfl, hk2, by omega⟩;intro hc;rw [hval] at hc;apply hV;refine ⟨hc.1 _ hmem, hc.2.1 _ hmem, ?_⟩
       have h5 : szL (e.args.take (i + 1)) <= szL e.args := by
        conv => rhs; rw [<- List.take_append_drop (i + 1) e.args, pC]
        omega
       have h6 := hc.2.2
       omega) (fun s hI => by
      obtain ⟨x27, c28⟩ := s;obtain ⟨h1, h2, h3, h4⟩ := hI;dsimp only at h1 h2 h3;subst h1;rw [List.take_length] at h2 h4;dsimp only;rw [if_neg (by omega)];refine ⟨_, rfl, ?_, by rw [hsz]; omega⟩;rw [hval]
      exact ⟨fun x hx => (h4 x hx).2.1, fun x hx => (h4 x hx).2.2, by omega⟩)
    rw [ho1]
    cases o with
    | inl c=>
     dsimp only at ho2;rw [bI];have hsz2:(szE e:Int)<=left:=ho2.1.2.2;exact⟨c,by rw [decide_eq_true ho2.1],by omega,by omega,λ_=>ho2.2⟩
    | inr r=>
     obtain⟨r1,r2⟩:=r;dsimp only at ho2;obtain⟨p1,p2,p3,p4⟩:=ho2;subst p2;rw [aX];exact⟨r2,by rw [decide_eq_false p1],p3,p4,λh=>absurd h p1⟩
   rw [if_neg hv]
   have hno:¬ gE n d left e:=by
    unfold gE;rw [hgd,hform];intro h;exact hv h.1.1
   exact⟨left - 1,by rw [decide_eq_false hno],by omega,by omega,λh=>absurd h hno⟩
  have leaf (b:Bool) (hform:dM n e.op e.var e.args.length=b) (hb:b=true->e.args.length=0):∃ k,(some (b,left - 1):Option (Bool×Int))=some (decide (gE n d left e),k)/\0<=k/\k<=left/\(gE n d left e->k=left - (szE e:Int)):=by
   cases b with
   | true=>
    have hnil:e.args=[]:=List.eq_nil_of_length_eq_zero (hb rfl);have h1:dpE e=1:=by rw [hdp,hnil];rfl
    have h2:szE e=1:=by rw [hsz,hnil];rfl
    have hyes:gE n d left e:=⟨hgd.2 ⟨hform,by rw [hnil];simp⟩,by omega,by omega⟩;exact⟨left - 1,by rw [decide_eq_true hyes],by omega,by omega,λ_=>by omega⟩
   | false=>
    have hno:¬ gE n d left e:=by
     unfold gE;rw [hgd,hform];intro h;exact absurd h.1.1 (by simp)
    exact⟨left - 1,by rw [decide_eq_false hno],by omega,by omega,λh=>absurd h hno⟩
  have hpos:0 < e.args.length->0 < fu:=by intro _;omega
  unfold dM at args leaf;by_cases h12:e.op=1\/e.op=2
  ·have e1:(if e.op=(1:Int) then some (decide (e.op=(1:Int))) else some (decide (e.op=(2:Int))))=some true:=by
    rcases h12 with h|h<;>simp [h]
   rw [e1,aA,if_pos rfl,bG,aX];refine leaf _ ?_ ?_
   ·rw [if_pos h12,Bool.eq_iff_iff];simp only [decide_eq_true_eq,zQA];omega
   simp only [zQA,decide_eq_true_eq];omega
  have e1:(if e.op=(1:Int) then some (decide (e.op=(1:Int))) else some (decide (e.op=(2:Int))))=some false:=by
   rw [if_neg (by omega),decide_eq_false (by omega)]
  rw [e1,aA,if_neg (by simp)];by_cases h3:e.op=3
  ·rw [if_pos h3,bG,aX];refine leaf _ ?_ ?_
   ·rw [if_neg h12,if_pos h3,Bool.eq_iff_iff];simp only [decide_eq_true_eq,zQA];omega
   simp only [zQA,decide_eq_true_eq];omega
  rw [if_neg h3];by_cases h4:e.op=4
  ·rw [if_pos h4];by_cases h1:e.args.length=1
   ·rw [if_pos (by omega), bI];exact args (by rw [if_neg h12,if_neg h3,if_pos h4];simp [h1]) hpos
   rw [if_neg (by omega), bG, aX];exact leaf false (by rw [if_neg h12,if_neg h3,if_pos h4,decide_eq_false (by omega)]) (by simp)
  rw [if_neg h4];by_cases h5:e.op=5
  ·rw [if_pos h5,bI];exact args (by rw [if_neg h12,if_neg h3,if_neg h4,if_pos (.inl h5)];simp) hpos
  rw [if_neg h5];by_cases h6:e.op=6
  ·rw [if_pos h6,bI];exact args (by rw [if_neg h12,if_neg h3,if_neg h4,if_pos (.inr h6)];simp) hpos
  rw [if_neg h6,bG,aX];exact leaf false (by rw [if_neg h12,if_neg h3,if_neg h4,if_neg (by omega)]) (by simp)
abbrev qEL (n:Int) (e:Ab):Bool:=decide (gE n 1 20000 e)
theorem qEF (n:Int) {e:Ab} (ho:okE e):fN e n=some (qEL n e):=by
 unfold fN mV;obtain⟨k,hk,_⟩:=pN n bA e 1 20000 (by unfold bA;omega) (by unfold bA;omega) (by omega) (by omega) (by omega) (by omega) ho;rw [hk,aA]
mutual
theorem yK:∀ e:Ab,szE e<=e.Ak.bulk
 | ⟨a,b,c⟩=>by
  have:=uU c;simp only [szE,Ab.Ak,D.bulk,D.bulks];omega
theorem uU:∀ l:List Ab,szL l<=D.bulks (Ab.An l)
 | []=>by simp [szL]
 | e :: r=>by
  have:=yK e;have:=uU r;simp only [szL,Ab.An,D.bulks];omega
end
mutual
theorem oR:∀ e:Ab,dpE e<=szE e
 | ⟨a,b,c⟩=>by
  have:=qDR c;simp only [szE,dpE];omega
theorem qDR:∀ l:List Ab,dpL l<=szL l
 | []=>by simp [szL,dpL]
 | e :: r=>by
  have:=oR e;have:=qDR r;simp only [szL,dpL];omega
end
theorem tG (e:Ab):1<=szE e:=by rw [kI];omega
theorem qO:∀ l:List Ab,l.length<=szL l
 | []=>by simp [szL]
 | e :: r=>by have:=tG e;have:=qO r;simp only [szL,List.length_cons];omega
theorem kW:∀ {l:List Ab} {x:Ab},x∈l->szE x<=szL l
 | e :: r,x,h=>by
  rcases zQB.1 h with rfl|h
  ·simp only [szL];omega
  have:=kW h;simp only [szL];omega
theorem qL {l:List Ab} {x:Ab} (h:x∈l):dpE x<=dpL l:=(dpL_le.1 (zQW _)) x h
theorem sA:∀ (fu:Nat) (e:Ab),dpE e<=fu->szE e<=1000000000->dG fu e=some (szE e:Int)
 | 0,e,h,_=>by rw [eX] at h;omega
 | fu+1,e,h,hs=>by
  rw [eX] at h;have hse:=kI e;have hl:=qO e.args;unfold dG;rw [jR (s:=((1:Int),(0:Int))) (λi=>((1:Int)+(szL (e.args.take i):Int),(i:Int))) e.args.length (o:=(1:Int)+(szL e.args:Int)) rfl (by omega) ?_ ?_]
  ·rw [aA]
   congr 1
   omega
  ·intro i hi;have hm:=List.getElem_mem hi;have h1:=qL hm;have h2:=kW hm;have hq:e.args.take (i+1)=e.args.take i++[e.args[i]]:=by rw [List.take_add_one,zQR hi];rfl
   have hn:szL (e.args.take (i+1))=szL (e.args.take i)+szE e.args[i]:=by rw [hq,pC];simp [szL]
   have hle:szL (e.args.take (i+1))<=szL e.args:=by
    have:=pC (e.args.take (i+1)) (e.args.drop (i+1));rw [List.take_append_drop] at this;omega
   dsimp only;rw [if_pos (by omega),aR (zQR hi),sA fu e.args[i] (by omega) (by omega),aA,aC (by unfold I64;omega),aC (by unfold I64;omega)]
   congr 3
   omega
  dsimp only;rw [if_neg (by omega),List.take_length];rfl
theorem yN {e:Ab} (hs:szE e<=1000000000):fK e=some (szE e:Int):=by
 unfold fK;exact sA bA e (by have:=oR e;unfold bA;omega) hs
theorem qFQ (a b:List Ab):dpL (a++b)=max (dpL a) (dpL b):=by
 induction a with
 | nil=>simp [dpL]
 | cons x r ih=>simp only [List.cons_append,dpL,ih];omega
theorem qZ:∀ (fu:Nat) (e:Ab),dpE e<=fu->szE e<=1000000000->cY fu e=some (dpE e:Int)
 | 0,e,h,_=>by rw [eX] at h;omega
 | fu+1,e,h,hs=>by
  rw [eX] at h;have hse:=kI e;have hde:=eX e;have hds:=oR e;have hl:=qO e.args;unfold cY;rw [jR (s:=((0:Int),(0:Int))) (λi=>((dpL (e.args.take i):Int),(i:Int))) e.args.length (o:=(dpL e.args:Int)) rfl (by omega) ?_ ?_]
  ·rw [aA, aC (by unfold I64; omega)]
   congr 1
   omega
  ·intro i hi;have hm:=List.getElem_mem hi;have h1:=qL hm;have h2:=kW hm;have hq:e.args.take (i+1)=e.args.take i++[e.args[i]]:=by rw [List.take_add_one,zQR hi];rfl
   have hn:dpL (e.args.take (i+1))=max (dpL (e.args.take i)) (dpE e.args[i]):=by rw [hq,qFQ];simp [dpL]
   dsimp only;rw [if_pos (by omega),aR (zQR hi),qZ fu e.args[i] (by omega) (by omega),aA,aC (by unfold I64;omega)]
   congr 3
   omega
  dsimp only;rw [if_neg (by omega),List.take_length];rfl
theorem qDS {e:Ab} (hs:szE e<=1000000000):iL e=some (dpE e:Int):=by
 unfold iL;exact qZ bA e (by have:=oR e;unfold bA;omega) hs
theorem sU (n:Int):∀ (fu:Nat) (e:Ab),dpE e<=fu->szE e<=1000000000->cU fu e n=some (cM n e)
 | 0,e,h,_=>by rw [eX] at h;omega
 | fu+1,e,h,hs=>by
  rw [eX] at h;have hse:=kI e;have hl:=qO e.args;have hg:cM n e=(dM n e.op e.var e.args.length&&gL n e.args):=by cases e;rw [cM]
  have hgl:gL n e.args=!(e.args.any λx=>!cM n x):=by
   rw [Bool.eq_iff_iff,oC];simp
  have hloop : bE (ρ := Unit ⊕ Bool) (fun i20 =>
    if i20 < (e.args.length : Int) then
     bC e.args i20 fun e23 =>
     aB ((cU fu) e23 n) fun r24 =>
     if (!(r24)) = true then
      aL (
       aL (
        some false))
     else
      aF (I64 (i20 + (1 : Int))) <|
      some (.inl (i20 + (1 : Int)))
    else
     aL (
      some (.inl ()))) (0 : Int) = some (if (e.args.any fun x => !cM n x) = true then (.inr false : Unit ⊕ Bool) else .inl ()) := by
   refine dZ (ρ:=Unit ⊕ Bool) e.args (λx=>!cM n x) (Sum.inr false) (Sum.inl ()) (by omega) ?_ ?_
   ·intro i x hx;have hi:=(zQQ.1 hx).1;have hm:=zQM hx;have h1:=qL hm;have h2:=kW hm;rw [if_pos (by omega),aR hx,sU n fu x (by omega) (by omega),aA,aC (by unfold I64;omega)];cases cM n x<;>rfl
   rw [if_neg (by omega)];rfl
  unfold cU;rw [hloop,hg,hgl]
  have leaf:e.op=1\/e.op=2->some ((decide (e.var=0))&&(decide ((e.args.length:Int)=0)))=some (dM n e.op e.var e.args.length&&!(e.args.any λx=>!cM n x)):=λh=>by
   have hf:dM n e.op e.var e.args.length=decide (e.var=0/\e.args.length=0):=by unfold dM;rw [if_pos h]
   rw [hf];by_cases hk:e.var=0/\e.args.length=0
   ·have ha:e.args=[]:=List.length_eq_zero_iff.1 hk.2;simp [hk.1,ha]
   rw [decide_eq_false hk,Bool.false_and]
   congr 1
   rw [Bool.and_eq_false_iff,decide_eq_false_iff_not,decide_eq_false_iff_not];omega
  by_cases h1:e.op=1
  ·rw [if_pos h1,aA,decide_eq_true h1,if_pos rfl,bG,aX];exact leaf (.inl h1)
  rw [if_neg h1,aA];by_cases h2:e.op=2
  ·rw [decide_eq_true h2,if_pos rfl,bG,aX];exact leaf (.inr h2)
  have h12 : ¬ (e.op = 1 \/ e.op = 2) := by omega
  rw [decide_eq_false h2,if_neg Bool.false_ne_true];by_cases h3:e.op=3
  ·have hf : dM n e.op e.var e.args.length = decide (0 <= e.var /\ e.var < n /\ e.args.length = 0) := by unfold dM; rw [if_neg h12, if_pos h3]
   rw [if_pos h3,bG,aX,hf];by_cases hk:0<=e.var/\e.var < n/\e.args.length=0
   ·have ha:e.args=[]:=List.length_eq_zero_iff.1 hk.2.2;simp [hk.1,hk.2.1,ha]
   rw [decide_eq_false hk,Bool.false_and]
   congr 1
   rw [Bool.and_eq_false_iff,Bool.and_eq_false_iff,decide_eq_false_iff_not,decide_eq_false_iff_not,decide_eq_false_iff_not];omega
  rw [if_neg h3];by_cases h4:e.op=4
  ·have hf : dM n e.op e.var e.args.length = decide (e.args.length = 1 /\ e.var = 0) := by unfold dM; rw [if_neg h12, if_neg h3, if_pos h4]
   rw [if_pos h4,hf];by_cases hk:e.args.length=1
   ·rw [if_pos (by omega), bI];cases e.args.any λx=>!cM n x<;>simp [hk]
   rw [if_neg (by omega), bG, aX];simp [hk]
  rw [if_neg h4];by_cases h5:e.op=5
  ·have hf : dM n e.op e.var e.args.length = decide (e.var = 0) := by unfold dM; rw [if_neg h12, if_neg h3, if_neg h4, if_pos (.inl h5)]
   rw [if_pos h5,bI,hf];cases e.args.any λx=>!cM n x<;>simp
  rw [if_neg h5];by_cases h6:e.op=6
  ·have hf : dM n e.op e.var e.args.length = decide (e.var = 0) := by unfold dM; rw [if_neg h12, if_neg h3, if_neg h4, if_pos (.inr h6)]
   rw [if_pos h6,bI,hf];cases e.args.any λx=>!cM n x<;>simp
  have hf : dM n e.op e.var e.args.length = false := by unfold dM; rw [if_neg h12, if_neg h3, if_neg h4, if_neg (by omega)]
  rw [if_neg h6,bG,aX,hf];rfl
theorem qFO (n:Int) {e:Ab} (hs:szE e<=1000000000):jM e n=some (cM n e):=by
 unfold jM;exact sU n bA e (by have:=oR e;unfold bA;omega) hs
theorem yD (n:Int) {e:Ab} (hs:szE e<=1000000000):fV e n=some (qEL n e):=by
 unfold fV;rw [yN hs,aA];by_cases h1:(szE e:Int)<=20000
 ·rw [if_pos h1,qDS hs,aA];by_cases h2:(dpE e:Int)<=12
  ·rw [if_pos h2,qFO n hs,aA,aA]
   congr 1
   cases hg:cM n e with
   | false=>exact (decide_eq_false (show ¬ gE n 1 20000 e from λh=>by rw [h.1] at hg;cases hg)).symm
   | true=>exact (decide_eq_true (show gE n 1 20000 e from ⟨hg,by omega,h1⟩)).symm
  rw [if_neg h2,aA]
  congr 1
  exact (decide_eq_false (show ¬ gE n 1 20000 e from λh=>by have:=h.2.1;omega)).symm
 rw [if_neg h1,aA]
 congr 1
 exact (decide_eq_false (show ¬ gE n 1 20000 e from λh=>by have:=h.2.2;omega)).symm
theorem mP (v:List Bool):∀ (fu:Nat) (e:Ab),dpE e<=fu->szE e<=1000000000->cJ fu e v=some (evE v e)
 | 0,e,h,_=>by rw [eX] at h;omega
 | fu+1,e,h,hs=>by
  rw [eX] at h;have hse:=kI e;have hl:=qO e.args;rw [lB];unfold cJ opB;by_cases h2:e.op=2
  ·rw [if_pos h2,bG,aX,if_neg (by omega),if_neg (by omega),if_neg (by omega),if_neg (by omega),decide_eq_true h2]
  rw [if_neg h2];by_cases h3:e.op=3
  ·rw [if_pos h3,if_pos h3];by_cases h0:0<=e.var
   ·rw [if_pos h0];by_cases hv:e.var < (v.length:Int)
    ·have hget:v[e.var.toNat]?=some (v.getD e.var.toNat false):=by
      rw [zQD,zQR (by omega)];rfl
     rw [if_pos hv,dL h0 hget,aA,bG,aX,decide_eq_true h0,Bool.true_and]
    rw [if_neg hv, aA, bG, aX, zQD, List.getElem?_eq_none (by omega)];simp
   rw [if_neg h0,aA,bG,aX,decide_eq_false h0,Bool.false_and]
  rw [if_neg h3,if_neg h3];by_cases h4:e.op=4
  ·rw [if_pos h4,if_pos h4]
   cases ha:e.args with
   | nil=>
    rw [if_neg (by simp),aA,bG,aX];rfl
   | cons x r=>
    have hm:x∈e.args:=by rw [ha];exact List.mem_cons_self ..
    have q1:=qL hm;have q2:=kW hm;rw [if_pos (by simp),dL (by omega) (by rfl),mP v fu x (by omega) (by omega),aA,aA,bG,aX];rfl
  rw [if_neg h4,if_neg h4]
  have hloop : ∀ c : Bool, bE (ρ := Unit ⊕ (Unit ⊕ Bool)) (fun i24 =>
      if i24 < (e.args.length : Int) then
       bC e.args i24 fun e27 =>
       aB ((cJ fu) e27 v) fun r28 =>
       if ((r28 == c)) = true then
        aL (
         aL (
          aL (
           some c)))
       else
        aF (I64 (i24 + (1 : Int))) <|
        some (.inl (i24 + (1 : Int)))
      else
       aL (
        some (.inl ()))) (0 : Int) = some (if (e.args.any fun x => evE v x == c) = true then .inr (.inr c) else .inl ()) := fun c => by
   refine dZ (ρ:=Unit ⊕ (Unit ⊕ Bool)) e.args (λx=>evE v x == c) (Sum.inr (Sum.inr c)) (Sum.inl ()) (by omega) ?_ ?_
   ·intro i x hx;have hi:=(zQQ.1 hx).1;have hm:=zQM hx;have q1:=qL hm;have q2:=kW hm;rw [if_pos (by omega),aR hx,mP v fu x (by omega) (by omega),aA,aC (by unfold I64;omega)];cases evE v x == c<;>rfl
   rw [if_neg (by omega)];rfl
  by_cases h5:e.op=5
  ·have h6 : ¬ e.op = 6 := by omega
   rw [if_pos h5,if_pos h5,aA,decide_eq_true h5,if_pos rfl,decide_eq_false h6,hloop false]
   have:(e.args.map (evE v)).all id=!(e.args.any λx=>evE v x == false):=by
    rw [List.all_map,List.all_eq_not_any_not]
    congr 2
    funext x
    show (!(evE v x))=(evE v x == false);cases evE v x<;>rfl
   rw [this];cases (e.args.any λx=>evE v x == false)<;>rfl
  rw [if_neg h5,if_neg h5,aA];by_cases h6:e.op=6
  ·rw [if_pos h6,decide_eq_true h6,if_pos rfl,decide_eq_false h5,hloop true]
   have:(e.args.map (evE v)).any id=(e.args.any λx=>evE v x == true):=by
    rw [List.any_map]
    congr 1
    funext x
    show evE v x=(evE v x == true);cases evE v x<;>rfl
   rw [this];cases (e.args.any λx=>evE v x == true)<;>rfl
  rw [if_neg h6,decide_eq_false h6,if_neg (by simp),bI,decide_eq_false h2]
theorem qEH (v:List Bool) {e:Ab} (hs:szE e<=1000000000):jN e v=some (evE v e):=by
 unfold jN;exact mP v bA e (by have:=oR e;unfold bA;omega) hs
mutual
def kP (x:Int) (b:Ab):Ab->Ab
 | ⟨op,v,l⟩=>if op=3/\v=x then b else ⟨op,v,kG x b l⟩
def kG (x:Int) (b:Ab):List Ab->List Ab
 | []=>[]
 | e :: r=>kP x b e :: kG x b r
end
mutual
def xV (x:Int):Ab->Nat
 | ⟨op,v,l⟩=>(if op=3/\v=x then 1 else 0)+xU x l
def xU (x:Int):List Ab->Nat
 | []=>0
 | e :: r=>xV x e+xU x r
end
theorem pZ (x:Int) (b:Ab):∀ l,kG x b l=l.map (kP x b)
 | []=>by simp [kG]
 | e :: r=>by simp [kG,pZ x b r]
theorem qEV (x:Int) (b e:Ab):kP x b e=if e.op=3/\e.var=x then b else ⟨e.op,e.var,e.args.map (kP x b)⟩:=by
 cases e with
 | mk o v l=>rw [kP,pZ]
mutual
theorem cnt_sz (x:Int):∀ e,xV x e<=szE e
 | ⟨o,v,l⟩=>by
  have:=zN x l;simp only [xV,szE];split<;>omega
theorem zN (x:Int):∀ l,xU x l<=szL l
 | []=>by simp [xU,szL]
 | e :: r=>by
  have:=cnt_sz x e;have:=zN x r;simp only [xU,szL];omega
end
mutual
theorem rep_sz (x:Int) (b:Ab):∀ e,szE (kP x b e)<=szE e+xV x e * (szE b - 1)
 | ⟨o,v,l⟩=>by
  have h1:=yR x b l;have h2:=tG b;simp only [xV,szE,kP];split
  ·rw [Nat.add_mul];omega
  simp only [szE,Nat.zero_add];omega
theorem yR (x:Int) (b:Ab):∀ l,szL (kG x b l)<=szL l+xU x l * (szE b - 1)
 | []=>by simp [kG,szL]
 | e :: r=>by
  have h1:=rep_sz x b e;have h2:=yR x b r;simp only [xU,szL,kG];rw [Nat.add_mul];omega
end
theorem qAP {n m op x:Int} {k:Nat} (h:n<=m) (hf:dM n op x k=true):dM m op x k=true:=by
 unfold dM at *;by_cases h1:op=1\/op=2
 ·rw [if_pos h1] at *; exact hf
 rw [if_neg h1] at *;by_cases h3:op=3
 ·rw [if_pos h3] at *;simp only [decide_eq_true_eq] at *;omega
 rw [if_neg h3] at *;exact hf
mutual
theorem qCK {n m:Int} (x:Int) {b:Ab} (hnm:n<=m) (hb:cM m b=true):∀ e,cM n e=true->cM m (kP x b e)=true
 | ⟨o,v,l⟩,h=>by
  simp only [cM,zQA] at h;have h1:=sK x hnm hb l h.2;simp only [kP];split
  ·exact hb
  simp only [cM,zQA];have hl:(kG x b l).length=l.length:=by rw [pZ,zQC]
  rw [hl];exact⟨qAP hnm h.1,h1⟩
theorem sK {n m:Int} (x:Int) {b:Ab} (hnm:n<=m) (hb:cM m b=true):∀ l,gL n l=true->gL m (kG x b l)=true
 | [],_=>by simp [kG,gL]
 | e :: r,h=>by
  simp only [gL,zQA] at h;simp only [kG,gL,zQA];exact⟨qCK x hnm hb e h.1,sK x hnm hb r h.2⟩
end
mutual
theorem rep_dp {n:Int} (x:Int) (b:Ab):∀ e,cM n e=true->dpE e<=dpE (kP x b e)
 | ⟨o,v,l⟩,h=>by
  simp only [cM,zQA] at h;have h1:=yS x b l h.2;simp only [kP];split
  ·rename_i hc;have hf:=h.1;unfold dM at hf;rw [if_neg (by omega),if_pos hc.1,decide_eq_true_eq] at hf;have:l=[]:=List.length_eq_zero_iff.1 hf.2.2;subst this;have:=eX b;simp only [dpE,dpL];omega
  simp only [dpE];omega
theorem yS {n:Int} (x:Int) (b:Ab):∀ l,gL n l=true->dpL l<=dpL (kG x b l)
 | [],_=>by simp [kG]
 | e :: r,h=>by
  simp only [gL,zQA] at h;have h1:=rep_dp x b e h.1;have h2:=yS x b r h.2;simp only [kG,dpL];omega
end
mutual
theorem qCJ {n x:Int} (b:Ab) (hx:x < 0\/n<=x):∀ e,cM n e=true->kP x b e=e
 | ⟨o,v,l⟩,h=>by
  simp only [cM,zQA] at h;have h1:=sJ b hx l h.2;simp only [kP];split
  ·rename_i hc;have hf:=h.1;unfold dM at hf;rw [if_neg (by omega),if_pos hc.1,decide_eq_true_eq] at hf;omega
  rw [h1]
theorem sJ {n x:Int} (b:Ab) (hx:x < 0\/n<=x):∀ l,gL n l=true->kG x b l=l
 | [],_=>by simp [kG]
 | e :: r,h=>by
  simp only [gL,zQA] at h;simp only [kG,qCJ b hx e h.1,sJ b hx r h.2]
end
def iH (n inp:Int) (r:Af):Bool:=(decide (r.kind=1/\r.Ad=0)||decide (r.kind=2/\1<=r.Ad/\r.Ad<=1073741824))&&(decide (inp<=r.var/\r.var < n)&&qEL n r.expr)
theorem tK (p:Go.Proofs.YtciilodpnepdbaaDoor.Program) {r:Af} (ho:okE r.expr):eN p r=some (iH (p.names.length:Int) p.inputs r):=by
 unfold eN iH
 have tail : aB (
  if p.inputs <= r.var then
   if r.var < (p.names.length : Int) then
    aB (fN r.expr (p.names.length : Int)) fun r14 =>
    some r14
   else
    some false
  else
   some false) (fun x10 =>
 some x10) = some (decide (p.inputs <= r.var /\ r.var < (p.names.length : Int)) && qEL (p.names.length : Int) r.expr) := by
  by_cases h1:p.inputs<=r.var
  ·rw [if_pos h1];by_cases h2:r.var < (p.names.length:Int)
   ·rw [if_pos h2,qEF _ ho,aA,aA,decide_eq_true ⟨h1,h2⟩,Bool.true_and]
   rw [if_neg h2,aA,decide_eq_false (λh=>h2 h.2),Bool.false_and]
  rw [if_neg h1,aA,decide_eq_false (λh=>h1 h.1),Bool.false_and]
 by_cases h1:r.kind=1
 ·rw [if_pos h1];by_cases h0:r.Ad=0
  ·rw [if_pos h0,bI,tail,decide_eq_true (⟨h1,h0⟩:r.kind=1/\r.Ad=0),Bool.true_or,Bool.true_and]
  rw [if_neg h0, bG, aX, decide_eq_false (by omega), decide_eq_false (by omega)];rfl
 rw [if_neg h1];by_cases h2:r.kind=2
 ·rw [if_pos h2];by_cases h0:r.Ad < 1\/1073741824 < r.Ad
  ·rw [if_pos (by simpa using h0), bG, aX, decide_eq_false (by omega), decide_eq_false (by omega)];rfl
  rw [if_neg (by simpa using h0),bI,tail,decide_eq_true (show r.kind=2/\1<=r.Ad/\r.Ad<=1073741824 by omega),Bool.or_true,Bool.true_and]
 rw [if_neg h2, bG, aX, decide_eq_false (by omega), decide_eq_false (by omega)];rfl
def eC (p:Go.Proofs.YtciilodpnepdbaaDoor.Program):Int:=
 if 2000 < p.names.length then 2
 else if p.inputs < 0\/(p.names.length:Int) < p.inputs then 1
 else if p.Aa.all (iH (p.names.length:Int) p.inputs)=false then 1
 else if (p.Aa.map (·.var)).Nodup then 0 else 8
def mI (n:Nat) (l:List Int):List Bool:=(List.range n).map λ(j:Nat)=>decide ((j:Int)∈l)
theorem qAI (n:Nat) (l:List Int):(mI n l).length=n:=by simp [mI]
theorem qM {n:Nat} {l:List Int} {x:Int} (h0:0<=x) (h1:x < (n:Int)):(mI n l)[x.toNat]?=some (decide (x∈l)):=by
 unfold mI;rw [zQP,List.getElem?_range (by omega)];simp only [Option.map_some];rw [show ((x.toNat:Nat):Int)=x by omega]
theorem qAH {n:Nat} {l:List Int} {x:Int} (h0:0<=x) (h1:x < (n:Int)):(mI n l).set x.toNat true=mI n (l++[x]):=by
 apply List.ext_getElem?;intro j;rw [List.getElem?_set,qAI];by_cases hj:x.toNat=j
 ·subst hj;rw [if_pos rfl,if_pos (by omega),qM h0 h1];simp
 rw [if_neg hj];unfold mI;rw [zQP,zQP]
 cases hr:(List.range n)[j]? with
 | none=>rfl
 | some k=>
  have hk:k=j:=by
   rw [zQQ] at hr;obtain⟨hr1,hr2⟩:=hr;rw [List.getElem_range] at hr2;exact hr2.symm
  subst hk;simp only [Option.map_some,zQN,List.mem_singleton]
  congr 1
  rw [Bool.eq_iff_iff];simp only [decide_eq_true_eq];constructor
  ·intro h;exact .inl h
  rintro (h|h)
  ·exact h
  omega
theorem nodup_take {l:List Int}:l.Nodup↔∀ (i:Nat) (x:Int),l[i]?=some x->x∉l.take i:=by
 constructor
 ·intro h i x hx hm;have hi:=(zQQ.1 hx).1;obtain⟨j,hj,he⟩:=List.mem_take_iff_getElem.1 hm;rw [sQ] at h;refine h j i (by omega) hi ?_;rw [hx,zQR (by omega),he]
 intro h;rw [sQ];intro a c hac hc he;have hx:=zQR hc;rw [hx] at he;refine h c _ hx (List.mem_take_iff_getElem.2 ⟨a,by omega,?_⟩);exact (zQQ.1 he).2
structure POk (p:Go.Proofs.YtciilodpnepdbaaDoor.Program):Prop where
 Aa:p.Aa.length<=1000000000
 names:p.names.length<=9000000000000000000
 exprs:∀ r∈p.Aa,okE r.expr
theorem sP {p:Go.Proofs.YtciilodpnepdbaaDoor.Program} (h:POk p):fL p=some (eC p):=by
 have hr:=h.Aa;unfold fL eC;by_cases h1:2000 < p.names.length
 ·rw [if_pos (by omega),if_pos h1]
 rw [if_neg (by omega), if_neg h1];by_cases h2:p.inputs < 0\/(p.names.length:Int) < p.inputs
 ·rw [if_pos (by simpa using h2),if_pos h2]
 rw [if_neg (by simpa using h2), if_neg h2, dZ p.Aa (fun r => !iH (p.names.length : Int) p.inputs r) (.inr 1) (.inl ()) (by omega) (fun i r hx => ?_) (by rw [if_neg (by omega)]; rfl)]
 ·rw [gN]
  cases ha:p.Aa.all (iH (p.names.length:Int) p.inputs) with
  | false=>rw [Bool.not_false,if_pos rfl,aX,if_pos rfl]
  | true=>
   rw [Bool.not_true,if_neg Bool.false_ne_true,bI,if_neg (by simp),aC (by omega)];rw [zQT] at ha
   have hv:∀ r∈p.Aa,0<=r.var/\r.var < (p.names.length:Int):=by
    intro r hr;have:=ha r hr;unfold iH at this;simp only [zQA,decide_eq_true_eq] at this;omega
   have hn:((p.names.length:Int)).toNat=p.names.length:=by omega
   rw [hn,qAK p.Aa.length (λi=>mI p.names.length ((p.Aa.map (·.var)).take i)) (λi=>match p.Aa[i]? with|some r=>decide (r.var∈(p.Aa.map (·.var)).take i)|none=>false) (.inr 8) (.inl (mI p.names.length (p.Aa.map (·.var)))) (by simp [mI,List.map_const']) (by omega) (λi hi _=>?_) (λ_=>by dsimp only;rw [if_neg (by omega),List.take_of_length_le (by simp)];rfl)]
   ·by_cases hd:(p.Aa.map (·.var)).Nodup
    ·rw [if_pos hd,if_neg ?_,bI];rw [zQU];rintro⟨i,hi,hc⟩;rw [List.mem_range] at hi;rw [zQR hi] at hc;exact nodup_take.1 hd i p.Aa[i].var (by simp [hi]) (of_decide_eq_true hc)
    rw [if_neg hd,if_pos ?_,aX];rw [zQU];rw [nodup_take] at hd;simp only [Classical.not_forall,Classical.not_not] at hd;obtain⟨i,x,hx,hm⟩:=hd;have hi:=(zQQ.1 hx).1;rw [zQC] at hi;refine⟨i,List.mem_range.2 hi,?_⟩;rw [zQP,zQR hi] at hx;simp only [Option.map_some,Option.some.injEq] at hx;rw [zQR hi];subst hx;exact decide_eq_true hm
   have hx:=zQR hi;have hvi:=hv _ (List.getElem_mem hi);dsimp only;rw [if_pos (by omega),aR hx,dL hvi.1 (qM hvi.1 hvi.2),hx];dsimp only;by_cases hm:p.Aa[i].var∈(p.Aa.map (·.var)).take i
   ·simp only [decide_eq_true hm];rfl
   simp only [decide_eq_false hm, Bool.false_eq_true, if_false]; rw [dL hvi.1 (qM hvi.1 hvi.2), aC (cD hi (by omega)), qAH hvi.1 hvi.2];rw [List.take_add_one (l:=p.Aa.map (·.var)),zQP,hx];rfl
 have hi:=(zQQ.1 hx).1;rw [if_pos (by omega),aR hx,tK p (h.exprs r (zQM hx)),aA,aC (cD hi (by omega))];rfl
theorem cG {p:Go.Proofs.YtciilodpnepdbaaDoor.Program} (h:eC p=0):p.names.length<=2000/\0<=p.inputs/\p.inputs<=(p.names.length:Int)/\(∀ r∈p.Aa,iH (p.names.length:Int) p.inputs r=true)/\(p.Aa.map (·.var)).Nodup:=by
 unfold eC at h;split at h
 ·cases h
 split at h
 ·cases h
 split at h
 ·cases h
 split at h
 ·rename_i h1 h2 h3 h4;refine⟨by omega,by omega,by omega,?_,h4⟩;rw [<- zQT];simpa using h3
 cases h
def eT (p:Go.Proofs.YtciilodpnepdbaaDoor.Program):Machine:=if eC p=0 then ⟨List.replicate p.names.length false,List.replicate p.Aa.length 0,false⟩ else ⟨[],[],true⟩
def zC (p:Go.Proofs.YtciilodpnepdbaaDoor.Program):Machine:=⟨(eT p).vars,(eT p).counts,true⟩
theorem sO {p:Go.Proofs.YtciilodpnepdbaaDoor.Program} (h:POk p):dP p=some (eT p):=by
 unfold dP eT;rw [sP h,aA];by_cases hz:eC p=0
 ·have:=cG hz;have:=h.Aa;rw [if_pos hz,if_pos hz,aC (by omega),aC (by omega),show ((p.names.length:Int)).toNat=p.names.length by omega,show ((p.Aa.length:Int)).toNat=p.Aa.length by omega]
 rw [if_neg hz,if_neg hz]
theorem qCV {p:Go.Proofs.YtciilodpnepdbaaDoor.Program} (h:POk p):kT p=some (zC p):=by
 unfold kT;rw [sO h,aA];rfl
def rC (r:Af) (c:Int):Bool:=decide (0<=c/\c<=r.Ad)
def dN (p:Go.Proofs.YtciilodpnepdbaaDoor.Program) (m:Machine):Bool:=decide (eC p=0/\m.vars.length=p.names.length/\m.counts.length=p.Aa.length)&&(List.zip p.Aa m.counts).all λx=>rC x.1 x.2
theorem qCW {p:Go.Proofs.YtciilodpnepdbaaDoor.Program} (h:POk p) (m:Machine):iY p m=some (dN p m):=by
 have hr:=h.Aa;unfold iY dN;rw [sP h,aA];by_cases hh:eC p=0/\m.vars.length=p.names.length/\m.counts.length=p.Aa.length
 ·obtain⟨h1,h2,h3⟩:=hh;have hzl:(List.zip p.Aa m.counts).length=p.Aa.length:=by rw [List.length_zip];omega
  rw [if_pos h1,if_pos (by omega),aA,decide_eq_true (show (m.counts.length:Int)=(p.Aa.length:Int) by omega),if_neg (by simp),decide_eq_true ⟨h1,h2,h3⟩,Bool.true_and];rw [dZ (List.zip p.Aa m.counts) (λx=>!rC x.1 x.2) (.inr false) (.inl ()) (by omega) (λi x hx=>?_) (by rw [if_neg (by omega)];rfl),gN]
  ·cases (List.zip p.Aa m.counts).all (λx=>rC x.1 x.2)<;>rfl
  have hi:=(zQQ.1 hx).1;obtain⟨r,c⟩:=x;rw [List.getElem?_zip_eq_some] at hx;obtain⟨hx1,hx2⟩:=hx;dsimp only at hx1 hx2 ⊢;rw [if_pos (by omega),aR hx1,aR hx2,aR hx2,aC (cD hi (by omega))];unfold rC;by_cases hc:c < 0
  ·rw [if_pos hc, aA, if_pos rfl, if_pos (by rw [decide_eq_false (by omega)]; rfl)];rfl
  rw [if_neg hc,aA];by_cases hd:r.Ad < c
  ·rw [decide_eq_true hd,if_pos rfl,if_pos (by rw [decide_eq_false (by omega)];rfl)];rfl
  rw [decide_eq_false hd,if_neg (by simp),if_neg (by rw [decide_eq_true (by omega)];simp)]
 rw [decide_eq_false hh,Bool.false_and]
 have e1:(if eC p=(0:Int) then if (m.vars.length:Int)=(p.names.length:Int) then some (!(decide ((m.counts.length:Int)=(p.Aa.length:Int)))) else some true else some true)=some true:=by
  by_cases h1:eC p=0
  ·rw [if_pos h1];by_cases h2:m.vars.length=p.names.length
   ·rw [if_pos (by omega),decide_eq_false (by omega)];rfl
   rw [if_neg (by omega)]
  rw [if_neg h1]
 rw [e1,aA,if_pos rfl]
def jH (r:Af) (v:Bool) (c:Int):Int×Bool:=if r.kind=2 then (if v=true then (if c < r.Ad then (c+1,decide (c+1=r.Ad)) else (c,decide (c=r.Ad))) else (0,false)) else (c,v)
def nB (V:List Bool) (x:Af×Int):List Bool:=V.set x.1.var.toNat (jH x.1 (evE V x.1.expr) x.2).2
def eK (l:List (Af×Int)) (V:List Bool):List Bool:=l.foldl nB V
theorem zU (V:List Bool) (x:Af×Int):(nB V x).length=V.length:=by unfold nB;rw [List.length_set]
theorem kN:∀ (l:List (Af×Int)) (V:List Bool),(eK l V).length=V.length
 | [],V=>rfl
 | x :: l,V=>by
  show (eK l (nB V x)).length=V.length;rw [kN l,zU]
theorem pX (a b:List (Af×Int)) (V:List Bool):eK (a++b) V=eK b (eK a V):=by unfold eK;rw [List.foldl_append]
def fO (l:List (Af×Int)) (V:List Bool):List Int:=l.mapIdx λi x=>(jH x.1 (evE (eK (l.take i) V) x.1.expr) x.2).1
theorem iA (l:List (Af×Int)) (V:List Bool):(fO l V).length=l.length:=by simp [fO]
def inV (n:Nat) (I V:List Bool):List Bool:=(List.range n).map (λi=>I.getD i false)++V.drop n
theorem nP {n:Nat} {I V:List Bool} (h:n<=V.length):(inV n I V).length=V.length:=by unfold inV;simp;omega
def iT (p:Go.Proofs.YtciilodpnepdbaaDoor.Program) (m:Machine) (I:List Bool):Machine:=
 if m.halted=true\/dN p m=false then zC p
 else ⟨eK (List.zip p.Aa m.counts) (inV p.inputs.toNat I m.vars),fO (List.zip p.Aa m.counts) (inV p.inputs.toNat I m.vars),false⟩
theorem qAS (r : Af) (c : Int) (v : Bool) (hp : r.Ad <= 1073741824) (h0 : 0 <= c) {β : Type} (k : Int -> Bool -> Option β) : aB (fE r) (fun r38 => match r38.act with
     | .c60 => aB (dJ c v) fun (r43, r44) => k r43 r44
     | .c61 u48 => aB (cS c v u48) fun (r50, r51) => k r50 r51) = k (jH r v c).1 (jH r v c).2 := by
 unfold fE jH;by_cases h2:r.kind=2
 ·rw [if_pos h2,aA,if_pos h2];dsimp only;unfold cS
  cases v with
  | false=>rw [Bool.not_false,if_pos rfl,aA,if_neg Bool.false_ne_true]
  | true=>
   rw [Bool.not_true,if_neg Bool.false_ne_true,if_pos rfl];by_cases hl:c < r.Ad
   ·rw [if_pos hl,aC (by unfold I64;omega),aA,if_pos hl]
   rw [if_neg hl,aA,if_neg hl]
 rw [if_neg h2,aA,if_neg h2];rfl
theorem qCU {p:Go.Proofs.YtciilodpnepdbaaDoor.Program} (h:POk p) (m:Machine) (I:List Bool) (hd:∀ r∈p.Aa,dpE r.expr<=bA) (hv:m.vars.length<=1000000000) (hcn:m.counts.length<=1000000000):fW p m I=some (iT p m I):=by
 have hr:=h.Aa;unfold fW iT
 have e1:(if (m.halted)=true then some true else aB (iY p m) λr4=>some (!(r4)))=some (decide (m.halted=true\/dN p m=false)):=by
  cases hm:m.halted with
  | true=>rw [if_pos rfl];simp
  | false=>
   rw [if_neg Bool.false_ne_true,qCW h,aA];cases dN p m<;>rfl
 rw [e1,aA];by_cases hx:m.halted=true\/dN p m=false
 ·rw [if_pos (decide_eq_true hx),if_pos hx,qCV h,aA]
 rw [if_neg (by rw [decide_eq_false hx]; exact Bool.false_ne_true), if_neg hx];have hfit:dN p m=true:=by cases hf:dN p m with|true=>rfl|false=>exact absurd (.inr hf) hx
 unfold dN at hfit;simp only [zQA,decide_eq_true_eq,zQT] at hfit;obtain⟨⟨hz,hvl,hcl⟩,hcnt⟩:=hfit;obtain⟨hn1,hn2,hn3,hn4,hn5⟩:=cG hz
 have hcb:cT m.vars=some m.vars:=by
  unfold cT
  cases hmv:m.vars with
  | nil=>rfl
  | cons a l=>rw [<- hmv];simp only [vS,hmv];rw [aC (by rw [<- hmv];simpa using hv)];rfl
 have hci:dB m.counts=some m.counts:=by
  unfold dB
  cases hmv:m.counts with
  | nil=>rfl
  | cons a l=>rw [<- hmv];simp only [vS,hmv];rw [aC (by rw [<- hmv];simpa using hcn)];rfl
 rw [hcb,aA,hci,aA];have hin:p.inputs=((p.inputs.toNat:Nat):Int):=by omega
 have hib:p.inputs.toNat<=m.vars.length:=by omega
 rw [hin]
 have hsetin (k:Nat) (hk:k < m.vars.length):(inV k I m.vars).set k (I.getD k false)=inV (k+1) I m.vars:=by
  unfold inV;rw [List.set_append_right _ _ (by simp),List.range_succ,List.map_append];simp only [zQC,List.length_range,Nat.sub_self,List.map_cons,List.map_nil,List.append_assoc];rw [List.drop_eq_getElem_cons hk];rfl
 rw [jA p.inputs.toNat (λk=>inV k I m.vars) (o:=inV p.inputs.toNat I m.vars) (by simp [inV]) (by omega) (λk hk=>?_) (by dsimp only;rw [if_neg (by omega)];rfl),aA]
 ·have hV0 : (inV p.inputs.toNat I m.vars).length = p.names.length := by rw [nP hib, hvl]
  rw [show ((p.inputs.toNat:Int)).toNat=p.inputs.toNat by omega];generalize inV p.inputs.toNat I m.vars=V0 at hV0;have hzl:(List.zip p.Aa m.counts).length=p.Aa.length:=by rw [List.length_zip];omega
  rw [jA p.Aa.length (λk=>(eK ((List.zip p.Aa m.counts).take k) V0,(fO (List.zip p.Aa m.counts) V0).take k++m.counts.drop k)) (o:=(eK (List.zip p.Aa m.counts) V0,fO (List.zip p.Aa m.counts) V0)) (by simp [eK]) (by omega) (λk hk=>?_) (by dsimp only;rw [if_neg (by omega),List.take_of_length_le (by omega),List.take_of_length_le (by rw [iA];omega),List.drop_of_length_le (by omega),List.append_nil];rfl),aA];have hrk:=zQR hk;obtain⟨c,hck⟩:∃ c,m.counts[k]?=some c:=⟨_,zQR (by omega)⟩;have hrm:=List.getElem_mem hk;have hrb:=hn4 _ hrm;generalize p.Aa[k]=r at hrk hrm hrb;have hzk:(List.zip p.Aa m.counts)[k]?=some (r,c):=List.getElem?_zip_eq_some.2 ⟨hrk,hck⟩;have hcb2:=hcnt _ (zQM hzk);unfold iH at hrb;simp only [zQA,Bool.or_eq_true,decide_eq_true_eq] at hrb;dsimp only at hcb2;unfold rC at hcb2;have hcb3:=of_decide_eq_true hcb2;have hVk:(eK ((List.zip p.Aa m.counts).take k) V0).length=p.names.length:=by rw [kN,hV0]
  have hcg:((fO (List.zip p.Aa m.counts) V0).take k++m.counts.drop k)[k]?=some c:=by
   rw [List.getElem?_append_right (by rw [List.length_take];omega),List.length_take,iA,hzl,show k - min k p.Aa.length=0 by omega,List.getElem?_drop];exact hck
  have hvk:0<=r.var/\r.var.toNat < p.names.length:=by omega
  have hnext:eK ((List.zip p.Aa m.counts).take (k+1)) V0=nB (eK ((List.zip p.Aa m.counts).take k) V0) (r,c):=by
   rw [List.take_add_one,hzk,pX];rfl
  have hcnx:(fO (List.zip p.Aa m.counts) V0)[k]?=some (jH r (evE (eK ((List.zip p.Aa m.counts).take k) V0) r.expr) c).1:=by
   unfold fO;rw [List.getElem?_mapIdx,hzk];rfl
  have hcset (x:Int) (hx:(fO (List.zip p.Aa m.counts) V0)[k]?=some x):((fO (List.zip p.Aa m.counts) V0).take k++m.counts.drop k).set k x=(fO (List.zip p.Aa m.counts) V0).take (k+1)++m.counts.drop (k+1):=by
   have hlt:((fO (List.zip p.Aa m.counts) V0).take k).length=k:=by rw [List.length_take,iA];omega
   rw [List.set_append_right _ _ (by omega),hlt,Nat.sub_self,List.take_add_one,hx,List.drop_eq_getElem_cons (by omega),List.set_cons_zero,List.append_assoc];rfl
  rw [hnext,<- hcset _ hcnx];unfold nB;dsimp only;rw [if_pos (by omega),aR hrk];generalize (fO (List.zip p.Aa m.counts) V0).take k++m.counts.drop k=T at hcg;generalize eK ((List.zip p.Aa m.counts).take k) V0=U at hVk;obtain⟨old,hvg⟩:∃ b,U[r.var.toNat]?=some b:=⟨_,zQR (by omega)⟩;rw [show ((k:Int)).toNat=k by omega];have hef:=qAS r c (evE U r.expr) (by omega) (by omega) (β:=(Int×List Bool×List Int) ⊕ (List Bool×List Int)) (λa b=>some (.inl ((k:Int)+1,U.set r.var.toNat b,T.set k a)));rw [<- hef];have hg64:I64 ((k:Int)+1):=cD hk (by omega)
  congr 1
  funext r38
  rw [aR hcg,qGE U (hd _ hrm) (h.exprs _ hrm),aA]
  cases r38.act with
  | c60=>
   dsimp only
   congr 1
   funext x
   obtain⟨a,d⟩:=x;dsimp only;rw [aR hcg,dL hvk.1 hvg,aC hg64]
  | c61 u=>
   dsimp only
   congr 1
   funext x
   obtain⟨a,d⟩:=x;dsimp only;rw [aR hcg,dL hvk.1 hvg,aC hg64]
 have hlk : (inV k I m.vars).length = m.vars.length := nP (by omega);have hgk:(inV k I m.vars)[k]?=some ((inV k I m.vars)[k]'(by omega)):=zQR (by omega);dsimp only;rw [if_pos (by omega),show ((k:Int)).toNat=k by omega,<- hsetin k (by omega)];by_cases hki:k < I.length
 ·rw [if_pos (by omega), aR (zQR hki), aR hgk, aC (by unfold I64; omega), zQD, zQR hki];rfl
 rw [if_neg (by omega), aR hgk, aC (by unfold I64; omega), zQD, List.getElem?_eq_none (by omega)];rfl
theorem qCG (p:Go.Proofs.YtciilodpnepdbaaDoor.Program) {r:Af} (hs:szE r.expr<=1000000000):hJ p r=some (iH (p.names.length:Int) p.inputs r):=by
 unfold hJ iH;rw [yD _ hs,aA];by_cases h1:r.kind=1
 ·have h2 : ¬ r.kind = 2 := by omega
  by_cases hv:p.inputs<=r.var/\r.var < (p.names.length:Int)
  ·have hv1 : ¬ r.var < p.inputs := by omega
   have hv2:¬ (p.names.length:Int)<=r.var:=by omega
   by_cases hp:r.Ad=0<;>simp [h1,hv,hv1,hv2,hp]
  by_cases hv1:r.var < p.inputs
  ·simp [h1,hv1,Int.not_le.2 hv1]
  have hv2 : (p.names.length : Int) <= r.var := by omega
  simp [h1,hv2,Int.not_lt.2 hv2]
 by_cases h2:r.kind=2
 ·by_cases hv:p.inputs<=r.var/\r.var < (p.names.length:Int)
  ·have hv1 : ¬ r.var < p.inputs := by omega
   have hv2:¬ (p.names.length:Int)<=r.var:=by omega
   by_cases hp:r.Ad < 1\/1073741824 < r.Ad
   ·have hp2 : ¬ (1 <= r.Ad /\ r.Ad <= 1073741824) := by omega
    simp [h2,hv,hv1,hv2,hp,hp2]
   have hp2 : 1 <= r.Ad /\ r.Ad <= 1073741824 := by omega
   simp [h2,hv,hv1,hv2,hp,hp2]
  by_cases hv1:r.var < p.inputs
  ·simp [h2,hv1,Int.not_le.2 hv1]
  have hv2 : (p.names.length : Int) <= r.var := by omega
  simp [h2,hv2,Int.not_lt.2 hv2]
 simp [h1,h2]
structure Slim (p:Go.Proofs.YtciilodpnepdbaaDoor.Program):Prop where
 ok:POk p
 Aa:p.Aa.length<=2000000
 size:∀ r∈p.Aa,szE r.expr<=2000000
theorem sN {p:Go.Proofs.YtciilodpnepdbaaDoor.Program} (h:Slim p):fA p=some (eC p):=by
 have hr:=h.Aa;unfold fA eC;by_cases h1:2000 < p.names.length
 ·rw [if_pos (by omega),if_pos h1]
 rw [if_neg (by omega), if_neg h1];by_cases h2:p.inputs < 0\/(p.names.length:Int) < p.inputs
 ·rw [if_pos (by simpa using h2),if_pos h2]
 rw [if_neg (by simpa using h2), if_neg h2, dZ p.Aa (fun r => !iH (p.names.length : Int) p.inputs r) (.inr 1) (.inl ()) (by omega) (fun i r hx => ?_) (by rw [if_neg (by omega)]; rfl)]
 ·rw [gN]
  cases ha:p.Aa.all (iH (p.names.length:Int) p.inputs) with
  | false=>rw [Bool.not_false,if_pos rfl,aX,if_pos rfl]
  | true=>
   rw [Bool.not_true,if_neg Bool.false_ne_true,bI,if_neg (by simp)];rw [sR p.Aa.length (λi=>match p.Aa[i]? with|some r=>decide (r.var∈(p.Aa.map (·.var)).take i)|none=>false) (.inr 8) (.inl ()) (by omega) (λi hi=>?_) (by rw [if_neg (by omega)];rfl)]
   ·by_cases hd:(p.Aa.map (·.var)).Nodup
    ·rw [if_pos hd,if_neg ?_,bI];rw [zQU];rintro⟨i,hi,hc⟩;rw [List.mem_range] at hi;rw [zQR hi] at hc;exact nodup_take.1 hd i p.Aa[i].var (by simp [hi]) (of_decide_eq_true hc)
    rw [if_neg hd,if_pos ?_,aX];rw [zQU];rw [nodup_take] at hd;simp only [Classical.not_forall,Classical.not_not] at hd;obtain⟨i,x,hx,hm⟩:=hd;have hi:=(zQQ.1 hx).1;rw [zQC] at hi;refine⟨i,List.mem_range.2 hi,?_⟩;rw [zQP,zQR hi] at hx;simp only [Option.map_some,Option.some.injEq] at hx;rw [zQR hi];subst hx;exact decide_eq_true hm
   have hx:=zQR hi;have hlen:(p.Aa.take i).length=i:=by rw [List.length_take];omega
   rw [if_pos (by omega),hx,dZ (ρ:=Unit ⊕ (Int ⊕ (Unit ⊕ Int))) (p.Aa.take i) (λr=>decide (r.var=p.Aa[i].var)) (.inr (.inr (.inr 8))) (.inl ()) (by omega) (λk r hk=>?_) (by rw [hlen,if_neg (by omega)];rfl)]
   ·have he:((p.Aa.take i).any λr=>decide (r.var=p.Aa[i].var))=decide (p.Aa[i].var∈(p.Aa.map (·.var)).take i):=by
     rw [Bool.eq_iff_iff,zQU,decide_eq_true_eq,<- List.map_take,List.mem_map];exact⟨λ⟨x,h1,h2⟩=>⟨x,h1,of_decide_eq_true h2⟩,λ⟨x,h1,h2⟩=>⟨x,h1,decide_eq_true h2⟩⟩
    rw [he];dsimp only;by_cases hm:p.Aa[i].var∈(p.Aa.map (·.var)).take i
    ·rw [if_pos (decide_eq_true hm),if_pos (decide_eq_true hm),aX]
    rw [if_neg (λh=>hm (of_decide_eq_true h)),if_neg (λh=>hm (of_decide_eq_true h)),bI,aC (cD hi (by omega))]
   have hk2:=(zQQ.1 hk).1
   have hkr:p.Aa[k]?=some r:=by
    rw [List.getElem?_take] at hk;split at hk
    ·exact hk
    cases hk
   rw [if_pos (by omega),aR hkr,aR hx,aC (by unfold I64;omega)];by_cases hv:r.var=p.Aa[i].var
   ·rw [if_pos hv,decide_eq_true hv];rfl
   rw [if_neg hv,decide_eq_false hv];rfl
 have hi:=(zQQ.1 hx).1;rw [if_pos (by omega),aR hx,qCG p (by have:=h.size r (zQM hx);omega),aA,aC (cD hi (by omega))];rfl
def byR (p:Go.Proofs.YtciilodpnepdbaaDoor.Program) (i:Nat) (r:Af):Ab:=if r.kind=2 then ⟨3,(p.names.length:Int)+i,[]⟩ else r.expr
def qAW (p:Go.Proofs.YtciilodpnepdbaaDoor.Program):Nat->Ab->Option Ab
 | 0,c=>some c
 | i+1,c=>match p.Aa[i]? with
  | none=>some c
  | some r=>if 20000 < szE c+xV r.var c * (szE (byR p i r) - 1) then none else qAW p i (kP r.var (byR p i r) c)
theorem qAV {p:Go.Proofs.YtciilodpnepdbaaDoor.Program} {i:Nat} {r:Af} (hx:p.Aa[i]?=some r) (c:Ab):qAW p (i+1) c=if 20000 < szE c+xV r.var c * (szE (byR p i r) - 1) then none else qAW p i (kP r.var (byR p i r) c):=by
 simp only [qAW,hx]
theorem zY (r:Af):szE r.expr<=r.enc.bulk:=by
 have:=yK r.expr;rw [Ab.Ag] at this;simp only [Af.enc,Ab.enc,D.bulk,D.bulks] at *;omega
theorem pU : ∀ l : List Af, (l.map fun r => szE r.expr).sum <= D.bulks (l.map Af.enc)
 | []=>by simp [D.bulks]
 | r :: l=>by
  have:=zY r;have:=pU l;simp only [List.map_cons,List.sum_cons,D.bulks];omega
theorem qAC {p:Go.Proofs.YtciilodpnepdbaaDoor.Program} {n:Nat} (h:p.enc.bulk<=n):(p.Aa.map λr=>szE r.expr).sum<=n/\p.Aa.length<=n/\p.names.length<=n:=by
 have h1:=pU p.Aa;have h2:=D.length_le (p.Aa.map Af.enc);have h3:=D.length_le (p.names.map D.str);rw [zQC] at h2 h3;simp only [Go.Proofs.YtciilodpnepdbaaDoor.Program.enc,D.bulk,D.bulks] at h;omega
theorem yM : ∀ {l : List Af} {r : Af}, r ∈ l -> szE r.expr <= (l.map fun r => szE r.expr).sum
 | x :: l,r,h=>by
  rw [List.map_cons,List.sum_cons];rcases zQB.1 h with rfl|h
  ·omega
  have:=yM h;omega
theorem zW {p:Go.Proofs.YtciilodpnepdbaaDoor.Program} (hw:Go.Proofs.YtciilodpnepdbaaDoor.Program.Wf p) (h:p.enc.bulk<=1048576):Slim p:=by
 obtain⟨h1,h2,h3⟩:=qAC h;refine⟨⟨by omega,by omega,λr hr=>qAG (hw.Aa.2 r hr).expr⟩,by omega,λr hr=>?_⟩;have:=yM hr;omega
theorem qE {p:Go.Proofs.YtciilodpnepdbaaDoor.Program} (h:Slim p) (m:Machine):hM p m=some (dN p m):=by
 have hr:=h.Aa;unfold hM dN;rw [sN h,aA];by_cases hh:eC p=0/\m.vars.length=p.names.length/\m.counts.length=p.Aa.length
 ·obtain⟨h1,h2,h3⟩:=hh;have hzl:(List.zip p.Aa m.counts).length=p.Aa.length:=by rw [List.length_zip];omega
  rw [if_pos h1,if_pos (by omega),aA,decide_eq_true (show (m.counts.length:Int)=(p.Aa.length:Int) by omega),if_neg (by simp),decide_eq_true ⟨h1,h2,h3⟩,Bool.true_and];rw [dZ (List.zip p.Aa m.counts) (λx=>!rC x.1 x.2) (.inr false) (.inl ()) (by omega) (λi x hx=>?_) (by rw [if_neg (by omega)];rfl),gN]
  ·cases (List.zip p.Aa m.counts).all (λx=>rC x.1 x.2)<;>rfl
  have hi:=(zQQ.1 hx).1;obtain⟨r,c⟩:=x;rw [List.getElem?_zip_eq_some] at hx;obtain⟨hx1,hx2⟩:=hx;dsimp only at hx1 hx2 ⊢;rw [if_pos (by omega),aR hx2,aR hx2,aR hx1,aC (cD hi (by omega))];unfold rC;by_cases hc:c < 0
  ·rw [if_pos hc, aA, if_pos rfl, if_pos (by rw [decide_eq_false (by omega)]; rfl)];rfl
  rw [if_neg hc,aA];by_cases hd:r.Ad < c
  ·rw [decide_eq_true hd,if_pos rfl,if_pos (by rw [decide_eq_false (by omega)];rfl)];rfl
  rw [decide_eq_false hd,if_neg (by simp),if_neg (by rw [decide_eq_true (by omega)];simp)]
 rw [decide_eq_false hh,Bool.false_and]
 have e1:(if eC p=(0:Int) then if (m.vars.length:Int)=(p.names.length:Int) then some (!(decide ((m.counts.length:Int)=(p.Aa.length:Int)))) else some true else some true)=some true:=by
  by_cases h1:eC p=0
  ·rw [if_pos h1];by_cases h2:m.vars.length=p.names.length
   ·rw [if_pos (by omega),decide_eq_false (by omega)];rfl
   rw [if_neg (by omega)]
  rw [if_neg h1]
 rw [e1,aA,if_pos rfl]
theorem qGC (r : Af) (c : Int) (v : Bool) (h0 : 0 <= c) (h1 : c <= r.Ad) (hp : r.kind = 2 -> 1 <= r.Ad /\ r.Ad <= 1073741824) : (if r.kind = (2 : Int) then
       aB (
        if v = true then
         aF (I64 (c + (1 : Int))) <|
         some (min (c + (1 : Int)) r.Ad)
        else
         some (0 : Int)) fun n43 =>
       some (decide (n43 = r.Ad), n43)
      else
       some (v, c)) = some ((jH r v c).2, (jH r v c).1) := by
 unfold jH;by_cases h2:r.kind=2
 ·have hp:=hp h2;rw [if_pos h2,if_pos h2]
  cases v with
  | false=>rw [if_neg Bool.false_ne_true,if_neg Bool.false_ne_true,aA,decide_eq_false (by omega)]
  | true=>
   rw [if_pos rfl,if_pos rfl,aC (by unfold I64;omega),aA];by_cases hl:c < r.Ad
   ·rw [if_pos hl,Int.min_eq_left (by omega)]
   rw [if_neg hl,Int.min_eq_right (by omega),show r.Ad=c by omega]
 rw [if_neg h2,if_neg h2]
theorem rIn_eq {p : Go.Proofs.YtciilodpnepdbaaDoor.Program} {n : Nat} {I V : List Bool} (hn : p.inputs = (n : Int)) (hl : n <= V.length) (hv : V.length <= 1000000000) : bE (ρ := List Bool) (fun (i14, b15) =>
    if i14 < p.inputs then
     if i14 < (I.length : Int) then
      bC I i14 fun e21 =>
      bC b15 i14 fun e22 =>
      aF (I64 (i14 + (1 : Int))) <|
      some (.inl ((i14 + (1 : Int)), (b15.set i14.toNat e21)))
     else
      bC b15 i14 fun e19 =>
      aF (I64 (i14 + (1 : Int))) <|
      some (.inl ((i14 + (1 : Int)), (b15.set i14.toNat false)))
    else
     aL (
      some b15)) ((0 : Int), (([] : List Bool) ++ V)) = some (inV n I V) := by
 have hsetin (k:Nat) (hk:k < V.length):(inV k I V).set k (I.getD k false)=inV (k+1) I V:=by
  unfold inV;rw [List.set_append_right _ _ (by simp),List.range_succ,List.map_append];simp only [zQC,List.length_range,Nat.sub_self,List.map_cons,List.map_nil,List.append_assoc];rw [List.drop_eq_getElem_cons hk];rfl
 rw [hn,jA n (λk=>inV k I V) (o:=inV n I V) (by simp [inV]) (by omega) (λk hk=>?_) (by dsimp only;rw [if_neg (by omega)];rfl)];have hlk:(inV k I V).length=V.length:=nP (by omega);have hgk:(inV k I V)[k]?=some ((inV k I V)[k]'(by omega)):=zQR (by omega);dsimp only;rw [if_pos (by omega),show ((k:Int)).toNat=k by omega,<- hsetin k (by omega)];by_cases hki:k < I.length
 ·rw [if_pos (by omega), aR (zQR hki), aR hgk, aC (by unfold I64; omega), zQD, zQR hki];rfl
 rw [if_neg (by omega), aR hgk, aC (by unfold I64; omega), zQD, List.getElem?_eq_none (by omega)];rfl
theorem qV {p:Go.Proofs.YtciilodpnepdbaaDoor.Program} {m:Machine} (h:dN p m=true):eC p=0/\m.vars.length=p.names.length/\m.counts.length=p.Aa.length/\∀ x∈List.zip p.Aa m.counts,0<=x.2/\x.2<=x.1.Ad:=by
 unfold dN at h;simp only [zQA,decide_eq_true_eq,zQT] at h;obtain⟨⟨hz,hvl,hcl⟩,hcnt⟩:=h;refine⟨hz,hvl,hcl,λx hx=>?_⟩;have:=hcnt x hx;unfold rC at this;exact of_decide_eq_true this
theorem qCQ {p:Go.Proofs.YtciilodpnepdbaaDoor.Program} (h:Slim p) {m:Machine} (I:List Bool) (hf:dN p m=true) (hh:m.halted=false):dU p m I=some ⟨eK (List.zip p.Aa m.counts) (inV p.inputs.toNat I m.vars),fO (List.zip p.Aa m.counts) (inV p.inputs.toNat I m.vars),false⟩:=by
 have hr:=h.Aa;obtain⟨hz,hvl,hcl,hcnt⟩:=qV hf;obtain⟨hn1,hn2,hn3,hn4,hn5⟩:=cG hz;unfold dU;rw [qE h,aA,hf,if_neg (by simp),aA,hh,if_neg (by simp),aC (by simp;omega),aC (by simp;omega),rIn_eq (n:=p.inputs.toNat) (by omega) (by omega) (by omega),aA];have hV0:(inV p.inputs.toNat I m.vars).length=p.names.length:=by rw [nP (by omega),hvl]
 generalize inV p.inputs.toNat I m.vars=V0 at hV0;have hzl:(List.zip p.Aa m.counts).length=p.Aa.length:=by rw [List.length_zip];omega
 rw [jA p.Aa.length (λk=>(eK ((List.zip p.Aa m.counts).take k) V0,(fO (List.zip p.Aa m.counts) V0).take k++m.counts.drop k)) (o:=(eK (List.zip p.Aa m.counts) V0,fO (List.zip p.Aa m.counts) V0)) (by simp [eK]) (by omega) (λk hk=>?_) (by dsimp only;rw [if_neg (by omega),List.take_of_length_le (by omega),List.take_of_length_le (by rw [iA];omega),List.drop_of_length_le (by omega),List.append_nil];rfl),aA];have hrk:=zQR hk;obtain⟨c,hck⟩:∃ c,m.counts[k]?=some c:=⟨_,zQR (by omega)⟩;have hrm:=List.getElem_mem hk;have hrb:=hn4 _ hrm;have hrs:=h.size _ hrm;generalize p.Aa[k]=r at hrk hrm hrb hrs;have hzk:(List.zip p.Aa m.counts)[k]?=some (r,c):=List.getElem?_zip_eq_some.2 ⟨hrk,hck⟩;have hcb3:=hcnt _ (zQM hzk);unfold iH at hrb;simp only [zQA,Bool.or_eq_true,decide_eq_true_eq] at hrb;dsimp only at hcb3;have hVk:(eK ((List.zip p.Aa m.counts).take k) V0).length=p.names.length:=by rw [kN,hV0]
 have hcg:((fO (List.zip p.Aa m.counts) V0).take k++m.counts.drop k)[k]?=some c:=by
  rw [List.getElem?_append_right (by rw [List.length_take];omega),List.length_take,iA,hzl,show k - min k p.Aa.length=0 by omega,List.getElem?_drop];exact hck
 have hvk:0<=r.var/\r.var.toNat < p.names.length:=by omega
 have hnext:eK ((List.zip p.Aa m.counts).take (k+1)) V0=nB (eK ((List.zip p.Aa m.counts).take k) V0) (r,c):=by
  rw [List.take_add_one,hzk,pX];rfl
 have hcnx:(fO (List.zip p.Aa m.counts) V0)[k]?=some (jH r (evE (eK ((List.zip p.Aa m.counts).take k) V0) r.expr) c).1:=by
  unfold fO;rw [List.getElem?_mapIdx,hzk];rfl
 have hcset (x:Int) (hx:(fO (List.zip p.Aa m.counts) V0)[k]?=some x):((fO (List.zip p.Aa m.counts) V0).take k++m.counts.drop k).set k x=(fO (List.zip p.Aa m.counts) V0).take (k+1)++m.counts.drop (k+1):=by
  have hlt:((fO (List.zip p.Aa m.counts) V0).take k).length=k:=by rw [List.length_take,iA];omega
  rw [List.set_append_right _ _ (by omega),hlt,Nat.sub_self,List.take_add_one,hx,List.drop_eq_getElem_cons (by omega),List.set_cons_zero,List.append_assoc];rfl
 rw [hnext,<- hcset _ hcnx];unfold nB;dsimp only;rw [if_pos (by omega),aR hrk];generalize (fO (List.zip p.Aa m.counts) V0).take k++m.counts.drop k=T at hcg;generalize eK ((List.zip p.Aa m.counts).take k) V0=U at hVk;obtain⟨old,hvg⟩:∃ b,U[r.var.toNat]?=some b:=⟨_,zQR (by omega)⟩;rw [qEH U (by omega),aA];have hact:=qGC r c (evE U r.expr) hcb3.1 hcb3.2 (λh2=>by omega);have hg64:I64 ((k:Int)+1):=cD hk (by omega);by_cases h2:r.kind=2
 ·rw [if_pos h2] at hact;rw [if_pos h2,aR hcg]
  cases hv:evE U r.expr with
  | false=>
   rw [hv,if_neg Bool.false_ne_true,aA] at hact;have h3:=Prod.mk.inj (Option.some.inj hact);rw [if_neg Bool.false_ne_true,aA,aR hcg,aA];dsimp only;rw [dL hvk.1 hvg,aC hg64,<- h3.1,<- h3.2];rfl
  | true=>
   have hg1:I64 (c+1):=by unfold I64;omega
   rw [hv,if_pos rfl,aC hg1,aA] at hact;have h3:=Prod.mk.inj (Option.some.inj hact);rw [if_pos rfl,aC hg1,aA,aR hcg,aA];dsimp only;rw [dL hvk.1 hvg,aC hg64,<- h3.1,<- h3.2];rfl
 rw [if_neg h2] at hact;have h3:=Prod.mk.inj (Option.some.inj hact);rw [if_neg h2,aA];dsimp only;rw [dL hvk.1 hvg,aC hg64,<- h3.1,<- h3.2]
 have hTs:T.set k c=T:=by
  apply List.ext_getElem?;intro j;rw [List.getElem?_set];split
  ·rename_i hj;subst hj;rw [if_pos (zQQ.1 hcg).1,hcg]
  rfl
 rw [hTs]
theorem zI {n:Nat} {V:List Bool} (hV:V.length=n) (T:List Bool):∀ (k:Nat) (e:Ab),szE e<=k->cM (n:Int) e=true->evE (V++T) e=evE V e
 | 0,e,h,_=>by have:=tG e;omega
 | k+1,e,h,hg=>by
  have hse:=kI e;obtain⟨hf,hx⟩:=goodE_iff.1 hg;have ih:e.args.map (evE (V++T))=e.args.map (evE V):=List.map_congr_left λx hm=>zI hV T k x (by have:=kW hm;omega) (hx x hm);rw [lB,lB,ih];unfold opB;by_cases h3:e.op=3
  ·rw [if_pos h3,if_pos h3];unfold dM at hf;rw [if_neg (by omega),if_pos h3,decide_eq_true_eq] at hf;rw [zQD,zQD,List.getElem?_append_left (by omega)]
  rw [if_neg h3,if_neg h3]
theorem zH {V:List Bool} {x:Int} (h0:0<=x) (h1:x.toNat < V.length) (b:Ab):∀ (k:Nat) (e:Ab),szE e<=k->evE V (kP x b e)=evE (V.set x.toNat (evE V b)) e
 | 0,e,h=>by have:=tG e;omega
 | k+1,e,h=>by
  have hse:=kI e
  have ih:(e.args.map (kP x b)).map (evE V)=e.args.map (evE (V.set x.toNat (evE V b))):=by
   rw [List.map_map];exact List.map_congr_left λy hm=>zH h0 h1 b k y (by have:=kW hm;omega)
  rw [qEV];by_cases hc:e.op=3/\e.var=x
  ·rw [if_pos hc,lB _ e];unfold opB;rw [if_pos hc.1,hc.2,decide_eq_true h0,Bool.true_and,zQD,List.getElem?_set_self h1];rfl
  rw [if_neg hc,lB,lB _ e];dsimp only;rw [ih];unfold opB;by_cases h3:e.op=3
  ·rw [if_pos h3,if_pos h3];have hne:e.var≠x:=λh=>hc ⟨h3,h⟩;by_cases hv:0<=e.var
   ·rw [zQD,zQD,List.getElem?_set_ne (by omega)]
   rw [decide_eq_false hv,Bool.false_and,Bool.false_and]
  rw [if_neg h3,if_neg h3]
theorem qGB {r:Af} {v:Bool} {c:Int} (h2:r.kind=2) (h0:0<=c) (h1:c<=r.Ad) (hp:1<=r.Ad):(jH r v c).2=decide ((jH r v c).1=r.Ad):=by
 unfold jH;rw [if_pos h2]
 cases v with
 | false=>rw [if_neg Bool.false_ne_true,decide_eq_false (by omega)]
 | true=>
  rw [if_pos rfl];split<;>rfl
def wR (l:List (Af×Int)) (V:List Bool):List Bool:=l.mapIdx λi x=>decide (x.1.kind=2)&&decide ((jH x.1 (evE (eK (l.take i) V) x.1.expr) x.2).1=x.1.Ad)
theorem qBS (l:List (Af×Int)) (V:List Bool):(wR l V).length=l.length:=by simp [wR]
theorem qEM {l:List (Af×Int)} {V:List Bool} {i:Nat} {x:Af×Int} (h:l[i]?=some x):(wR l V)[i]?=some (decide (x.1.kind=2)&&decide ((jH x.1 (evE (eK (l.take i) V) x.1.expr) x.2).1=x.1.Ad)):=by
 unfold wR;rw [List.getElem?_mapIdx,h];rfl
theorem back {p:Go.Proofs.YtciilodpnepdbaaDoor.Program} {m:Machine} (hf:dN p m=true) {V:List Bool} (hV:V.length=p.names.length):∀ (i:Nat) (c e:Ab),i<=p.Aa.length->qAW p i c=some e->evE (V++wR (List.zip p.Aa m.counts) V) e=evE (eK ((List.zip p.Aa m.counts).take i) V++wR (List.zip p.Aa m.counts) V) c
 | 0,c,e,_,h=>by
  simp only [qAW,Option.some.injEq] at h;subst h;rfl
 | i+1,c,e,hi,h=>by
  obtain⟨hz,hvl,hcl,hcnt⟩:=qV hf;obtain⟨hn1,hn2,hn3,hn4,hn5⟩:=cG hz;have hil:i < p.Aa.length:=by omega
  have hrk:=zQR hil;have hrm:=List.getElem_mem hil;rw [qAV hrk] at h;have hrb:=hn4 _ hrm;generalize p.Aa[i]=r at hrk hrm hrb h;obtain⟨k,hck⟩:∃ c,m.counts[i]?=some c:=⟨_,zQR (by omega)⟩;have hzk:(List.zip p.Aa m.counts)[i]?=some (r,k):=List.getElem?_zip_eq_some.2 ⟨hrk,hck⟩;have hcb:=hcnt _ (zQM hzk);have hzl:(List.zip p.Aa m.counts).length=p.Aa.length:=by rw [List.length_zip];omega
  have htl:=qBS (List.zip p.Aa m.counts) V;unfold iH at hrb;simp only [zQA,Bool.or_eq_true,decide_eq_true_eq] at hrb;dsimp only at hcb;split at h
  ·cases h
  have hnext:eK ((List.zip p.Aa m.counts).take (i+1)) V=nB (eK ((List.zip p.Aa m.counts).take i) V) (r,k):=by
   rw [List.take_add_one,hzk,pX];rfl
  have hta:=qEM (V:=V) hzk;have hVk:(eK ((List.zip p.Aa m.counts).take i) V).length=p.names.length:=by rw [kN,hV]
  rw [back hf hV i _ _ (by omega) h,hnext];generalize eK ((List.zip p.Aa m.counts).take i) V=U at hVk hta;generalize wR (List.zip p.Aa m.counts) V=T at hta htl;dsimp only at hta
  have hval:evE (U++T) (byR p i r)=(jH r (evE U r.expr) k).2:=by
   unfold byR;by_cases h2:r.kind=2
   ·rw [if_pos h2,lB];unfold opB;dsimp only;rw [if_pos rfl,decide_eq_true (by omega),Bool.true_and,zQD,List.getElem?_append_right (by omega),show ((p.names.length:Int)+(i:Int)).toNat - U.length=i by omega,hta,qGB h2 hcb.1 hcb.2 (by omega),decide_eq_true h2,Bool.true_and];rfl
   rw [if_neg h2,zI hVk T _ r.expr (zQW _) hrb.2.2.1];unfold jH;rw [if_neg h2]
  rw [zH (by omega) (by rw [zQL];omega) _ _ c (zQW _),hval,List.set_append_left _ _ (by omega)];rfl
theorem qGA:fY=some true:=by decide+kernel
theorem qBI {r:Af} {v:Bool} {c:Int} (h:rC r c=true):rC r (jH r v c).1=true:=by
 have h1:=of_decide_eq_true h;unfold jH;split
 ·split
  ·split
   ·exact decide_eq_true (by omega)
   exact h
  exact decide_eq_true (by omega)
 exact h
theorem uX {p:Go.Proofs.YtciilodpnepdbaaDoor.Program} {m:Machine} (I:List Bool) (hf:dN p m=true) (hh:m.halted=false):iT p m I=⟨eK (List.zip p.Aa m.counts) (inV p.inputs.toNat I m.vars),fO (List.zip p.Aa m.counts) (inV p.inputs.toNat I m.vars),false⟩:=by
 unfold iT;rw [if_neg (by rw [hf,hh];simp)]
theorem cnt_of {l:List (Af×Int)} {V:List Bool} {k:Nat} {c:Int} (h:(fO l V)[k]?=some c):∃ r c' v,l[k]?=some (r,c')/\c=(jH r v c').1:=by
 unfold fO at h;rw [List.getElem?_mapIdx] at h
 cases hz:l[k]? with
 | none=>rw [hz] at h;cases h
 | some y=>
  rw [hz] at h;exact⟨y.1,y.2,_,rfl,(Option.some.inj h).symm⟩
theorem uY {p:Go.Proofs.YtciilodpnepdbaaDoor.Program} {m:Machine} (I:List Bool) (hf:dN p m=true) (hh:m.halted=false):dN p (iT p m I)=true/\(iT p m I).halted=false:=by
 rw [uX I hf hh];refine⟨?_,rfl⟩;unfold dN at hf ⊢;simp only [zQA,decide_eq_true_eq] at hf;obtain⟨⟨hz,hvl,hcl⟩,hcnt⟩:=hf;obtain⟨hn1,hn2,hn3,hn4,hn5⟩:=cG hz;dsimp only;have hzl:(List.zip p.Aa m.counts).length=p.Aa.length:=by rw [List.length_zip];omega
 rw [decide_eq_true ⟨hz,by rw [kN,nP (by omega),hvl],by rw [iA,hzl]⟩,Bool.true_and,zQT];rw [zQT] at hcnt;intro x hx;obtain⟨k,hk⟩:=List.getElem?_of_mem hx;obtain⟨r,c⟩:=x;rw [List.getElem?_zip_eq_some] at hk;obtain⟨hk1,hk2⟩:=hk;dsimp only at hk1 hk2 ⊢;obtain⟨r',c',v,h1,h2⟩:=cnt_of hk2;have hm:=hcnt _ (zQM h1);rw [List.getElem?_zip_eq_some] at h1;have h3:=h1.1;dsimp only at h3;rw [hk1] at h3;cases h3;subst h2;exact qBI hm
def MOk (m:Machine):Prop:=m.vars.length<=1000000000/\m.counts.length<=1000000000
theorem uV {p:Go.Proofs.YtciilodpnepdbaaDoor.Program} (h:Slim p):MOk (eT p):=by
 unfold eT;split
 ·rename_i hz;have:=cG hz;have:=h.Aa;exact⟨by simp;omega,by simp;omega⟩
 exact⟨by simp,by simp⟩
theorem qFM {p:Go.Proofs.YtciilodpnepdbaaDoor.Program} (h:Slim p):MOk (zC p):=uV h
theorem qFP {p:Go.Proofs.YtciilodpnepdbaaDoor.Program} (h:Slim p) {m:Machine} (hf:dN p m=true):MOk m:=by
 obtain⟨hz,hvl,hcl,hcnt⟩:=qV hf;have:=cG hz;have:=h.Aa;exact⟨by omega,by omega⟩
theorem qEP {p:Go.Proofs.YtciilodpnepdbaaDoor.Program} (h:Slim p) {m:Machine} (I:List Bool):MOk (iT p m I):=by
 by_cases hx:m.halted=true\/dN p m=false
 ·unfold iT;rw [if_pos hx];exact qFM h
 have hf : dN p m = true := by cases hf : dN p m with | true => rfl | false => exact absurd (.inr hf) hx
 have hh:m.halted=false:=by cases hf:m.halted with|false=>rfl|true=>exact absurd (.inl hf) hx
 exact qFP h (uY I hf hh).1
theorem Scan26 {p:Go.Proofs.YtciilodpnepdbaaDoor.Program} (h:Slim p) {m:Machine} (hm:MOk m) (I:List Bool):fW p m I=some (iT p m I):=
 qCU h.ok m I (λr hr=>by have:=oR r.expr;have:=h.size r hr;unfold bA;omega) hm.1 hm.2
theorem vP {p:Go.Proofs.YtciilodpnepdbaaDoor.Program} (h:Slim p):eZ p=some (eT p):=by
 unfold eZ eT;rw [sN h,aA];by_cases hz:eC p=0
 ·have:=cG hz;have:=h.Aa;rw [if_pos hz,if_pos hz,aC (by omega),aC (by omega),show ((p.names.length:Int)).toNat=p.names.length by omega,show ((p.Aa.length:Int)).toNat=p.Aa.length by omega]
 rw [if_neg hz,if_neg hz]
theorem yV {p:Go.Proofs.YtciilodpnepdbaaDoor.Program} (h:Slim p):hL p=some (zC p):=by
 unfold hL;rw [vP h,aA];rfl
theorem qEY {p:Go.Proofs.YtciilodpnepdbaaDoor.Program} (h:Slim p) (m:Machine) (I:List Bool):dU p m I=some (iT p m I):=by
 by_cases hf:dN p m=true
 ·cases hh:m.halted with
  | false=>rw [qCQ h I hf hh,uX I hf hh]
  | true=>
   unfold dU iT;rw [qE h,aA,hf];simp only [hh,Bool.not_true,if_true,if_false,aA,Bool.false_eq_true];rw [yV h,aA,if_pos (.inl trivial)]
 have hf : dN p m = false := by simpa using hf
 unfold dU iT;rw [qE h,aA,hf];simp only [Bool.not_false,if_true,aA];rw [yV h,aA,if_pos (.inr trivial)]
theorem sC {α:Type} [DecidableEq α] {f:Int->Option (Int ⊕ (Unit ⊕ Bool))} (a b:List α) (hl:a.length=b.length) (h:a.length<=iZ) (hf:∀ (i:Nat) (hi:i < a.length),f (i:Int)=if a[i]=b[i]'(by omega) then some (.inl ((i:Int)+1)) else some (.inr (.inr false))) (he:f (a.length:Int)=some (.inr (.inl ()))):bE f 0=some (if a=b then .inl () else .inr false):=by
 unfold iZ at h;rw [sR a.length (λi=>decide (a[i]?≠b[i]?)) (.inr false) (.inl ()) h (λi hi=>?_) he]
 ·by_cases he:a=b
  ·subst he;rw [if_neg (by simp),if_pos rfl]
  rw [if_pos ?_,if_neg he];rw [zQU];apply Classical.byContradiction;intro hc;apply he;apply List.ext_getElem?;intro i;by_cases hi:i < a.length
  ·apply Classical.byContradiction;intro hn;exact hc ⟨i,List.mem_range.2 hi,decide_eq_true hn⟩
  rw [List.getElem?_eq_none (by omega),List.getElem?_eq_none (by omega)]
 have ha:=zQR hi;have hb:=zQR (l:=b) (show i < b.length by omega);rw [hf i hi,ha,hb];by_cases he:a[i]=b[i]'(by omega)
 ·rw [if_pos he,if_neg (by rw [he];simp)]
 rw [if_neg he,if_pos (by simpa using he)]
theorem same20 {a b:Machine} (h:MOk a):eU a b=some (decide (a=b)):=by
 obtain⟨av,ac,ah⟩:=a;obtain⟨bv,bc,bh⟩:=b;unfold MOk at h;dsimp only at h;unfold eU;dsimp only;by_cases hx:ah=bh/\av.length=bv.length/\ac.length=bc.length
 ·obtain⟨h1,h2,h3⟩:=hx;subst h1;rw [if_neg (by simp [h2,h3]),sC av bv h2 (by unfold iZ;omega) (λi hi=>?_) (by rw [if_neg (by omega)];rfl),sC ac bc h3 (by unfold iZ;omega) (λi hi=>?_) (by rw [if_neg (by omega)];rfl)]
  ·by_cases hv:av=bv
   ·subst hv;rw [if_pos rfl,bI];by_cases hc:ac=bc
    ·subst hc;rw [if_pos rfl,bI];simp
    rw [if_neg hc,aX,decide_eq_false (λhe=>hc (by cases he;rfl))]
   rw [if_neg hv,aX,decide_eq_false (λhe=>hv (by cases he;rfl))]
  ·have hb : i < bc.length := by omega
   rw [if_pos (by omega),aR (zQR hi),aR (zQR hb),aC (cD hi (by omega))];rfl
  have hb : i < bv.length := by omega
  rw [if_pos (by omega),aR (zQR hi),aR (zQR hb),aC (cD hi (by omega))];by_cases he:av[i]=bv[i]
  ·rw [if_pos he,he];simp
  rw [if_neg he,if_pos (by simpa using he)];rfl
 rw [if_pos ?_, decide_eq_false (fun he => hx (by cases he; exact ⟨rfl, rfl, rfl⟩))];apply Classical.byContradiction;intro hc;apply hx;simp only [Bool.or_eq_true,Bool.not_eq_true',decide_eq_false_iff_not,not_or,Classical.not_not] at hc;refine⟨by simpa using hc.1,by have:=hc.2.1;omega,by have:=hc.2.2;omega⟩
theorem sX:∀ (fu:Nat) (e:Ab) (left:Int),dpE e<=fu->okE e->0<=left->left<=1000000->∃ r,cL fu e left=some r/\1<=r/\r<=left+1
 | 0,e,left,h,_,_,_=>by rw [eX] at h;omega
 | fu+1,e,left,h,ho,h0,hm=>by
  rw [eX] at h;have hd:∀ x∈e.args,dpE x<=fu:=dpL_le.1 (by omega);obtain⟨hl,hox⟩:=okE_iff.1 ho;unfold cL
  obtain ⟨o, h1, h2⟩ := uB (f := fun ((n5 : Int), (i6 : Int)) =>
    if ((decide (i6 < (e.args.length : Int))) && (decide (n5 <= left))) = true then
     bC e.args i6 fun e10 =>
     aF (I64 (left - n5)) <|
     aB ((cL fu) e10 (left - n5)) fun r12 =>
     aF (I64 (n5 + r12)) <|
     aF (I64 (i6 + (1 : Int))) <|
     some (.inl ((n5 + r12), (i6 + (1 : Int))))
    else
     aL (
      some n5)) (s := ((1 : Int), (0 : Int))) (fun (o : Int) => 1 <= o /\ o <= left + 1) (fun i s => s.2 = (i : Int) /\ 1 <= s.1 /\ s.1 <= left + 1) e.args.length hl ⟨rfl, by omega, by omega⟩ (fun i hi s hI => by
    obtain ⟨n, k⟩ := s;obtain ⟨h1, h2, h3⟩ := hI;dsimp only at h1 h2 h3;subst h1;dsimp only;by_cases hn : n <= left
    ·left;have hm := List.getElem_mem hi;obtain ⟨r, hr1, hr2, hr3⟩ := sX fu e.args[i] (left - n) (hd _ hm) (hox _ hm) (by omega) (by omega);rw [if_pos (by rw [decide_eq_true (show (i : Int) < (e.args.length : Int) by omega), decide_eq_true hn]; rfl), aR (zQR hi), aC (by unfold I64; omega), hr1, aA, aC (by unfold I64; omega), aC (cD hi hl)];exact ⟨_, rfl, by push_cast; rfl, by show 1 <= n + r; omega, by show n + r <= left + 1; omega⟩
    ·right;rw [if_neg (by rw [decide_eq_false hn, Bool.and_false]; exact Bool.false_ne_true)]
     exact ⟨_, rfl, h2, h3⟩) (fun s hI => by
    obtain ⟨n, k⟩ := s;obtain ⟨h1, h2, h3⟩ := hI;dsimp only at h1 h2 h3;subst h1;dsimp only;rw [if_neg (by rw [decide_eq_false (by omega), Bool.false_and]; exact Bool.false_ne_true)]
    exact ⟨_, rfl, h2, h3⟩)
  rw [h1,aA];exact⟨o,rfl,h2⟩
theorem few20 {p:Go.Proofs.YtciilodpnepdbaaDoor.Program} (h:Slim p):∃ b,iX p 20=some b:=by
 have hr:=h.Aa;unfold iX;split
 ·exact⟨_,rfl⟩
 obtain ⟨o, h1, h2⟩ := uB (f := fun (i5 : Int) =>
   if i5 < (p.Aa.length : Int) then
    bC p.Aa i5 fun e8 =>
    aB (iK e8.expr (200 : Int)) fun r9 =>
    if (200 : Int) < r9 then
     aL (
      aL (
       some false))
    else
     aF (I64 (i5 + (1 : Int))) <|
     some (.inl (i5 + (1 : Int)))
   else
    aL (
     some (.inl ()))) (s := (0 : Int)) (fun (o : Unit ⊕ Bool) => True) (fun i s => s = (i : Int)) p.Aa.length (by unfold iZ; omega) rfl (fun i hi s hI => by
   subst hI;have hm := List.getElem_mem hi;obtain ⟨r, hr1, _⟩ := sX bA p.Aa[i].expr 200 (by have := oR p.Aa[i].expr; have := h.size _ hm; unfold bA; omega) (h.ok.exprs _ hm) (by omega) (by omega);rw [if_pos (by omega), aR (zQR hi)];unfold iK;rw [hr1, aA];split
   ·exact .inr ⟨_, rfl, trivial⟩
   ·rw [aC (cD hi (by omega))]
    exact .inl ⟨_, rfl, by push_cast; rfl⟩) (fun s hI => by
   subst hI;rw [if_neg (by omega)]
   exact ⟨_, rfl, trivial⟩)
 rw [h1]
 cases o with
 | inl u=>exact⟨_,rfl⟩
 | inr b=>exact⟨_,rfl⟩
structure Ok26 (p:Go.Proofs.YtciilodpnepdbaaDoor.Program) (l:List Ac) (I:List (List Bool)):Prop where
 slim:Slim p
 len:l.length<=iZ
 obs:∀ e∈l,okE e.expr/\szE e.expr<=1000000000
 inp:I.length<=iZ
theorem few26 {p:Go.Proofs.YtciilodpnepdbaaDoor.Program} {l:List Ac} {I:List (List Bool)} (h:Ok26 p l I):∃ b,iW p l I=some b:=by
 have hl:=h.len;have hI:=h.inp;unfold iW;obtain⟨b,hb⟩:=few20 h.slim;rw [hb,aA]
 have key : ∀ x : Bool, ∃ b', (if x = true then some false else
  cH (
   bE (fun i9 =>
    if i9 < (l.length : Int) then
     bC l i9 fun e12 =>
     aB (fK e12.expr) fun r13 =>
     if (200 : Int) < r13 then
      aL (
       aL (
        some false))
     else
      aF (I64 (i9 + (1 : Int))) <|
      some (.inl (i9 + (1 : Int)))
    else
     aL (
      some (.inl ()))) (0 : Int)) fun _ =>
  cH (
   bE (fun i21 =>
    if i21 < (I.length : Int) then
     bC I i21 fun e24 =>
     if (40 : Int) < (e24.length : Int) then
      aL (
       aL (
        some false))
     else
      aF (I64 (i21 + (1 : Int))) <|
      some (.inl (i21 + (1 : Int)))
    else
     aL (
      some (.inl ()))) (0 : Int)) fun _ =>
  some true) = some b' := by
  intro x
  cases x with
  | true=>exact⟨_,rfl⟩
  | false=>
   rw [if_neg Bool.false_ne_true,dZ l (λe=>decide ((200:Int) < (szE e.expr:Int))) (.inr false) (.inl ()) hl (λi e hx=>?_) (by rw [if_neg (by omega)];rfl),dZ I (λe=>decide ((40:Int) < (e.length:Int))) (.inr false) (.inl ()) hI (λi e hx=>?_) (by rw [if_neg (by omega)];rfl)]
   ·split
    ·exact⟨_,rfl⟩
    rw [bI];split
    ·exact⟨_,rfl⟩
    exact⟨_,rfl⟩
   ·have hi:=(zQQ.1 hx).1;rw [if_pos (by omega),aR hx,aC (cD hi hI)];by_cases hc:(40:Int) < (e.length:Int)
    ·rw [if_pos hc,if_pos (decide_eq_true hc)];rfl
    rw [if_neg hc,if_neg (by simpa using hc)]
   have hi:=(zQQ.1 hx).1;rw [if_pos (by omega),aR hx,yN (h.obs e (zQM hx)).2,aA,aC (cD hi hl)];by_cases hc:(200:Int) < (szE e.expr:Int)
   ·rw [if_pos hc,if_pos (decide_eq_true hc)];rfl
   rw [if_neg hc,if_neg (by simpa using hc)]
 cases b with
 | false=>rw [if_pos (by rfl),aA];exact key true
 | true=>
  rw [if_neg (by simp)];split
  ·rw [aA];exact key true
  rw [aA];exact key _
def pP (p:Go.Proofs.YtciilodpnepdbaaDoor.Program) (I:List (List Bool)) (m:Machine) (i:Int):Machine:=if 0<=i/\i < (I.length:Int) then iT p m (I.getD i.toNat []) else m
def iV (p:Go.Proofs.YtciilodpnepdbaaDoor.Program) (I:List (List Bool)) (t:List Int):Machine:=t.foldl (pP p I) (eT p)
theorem qAA (p:Go.Proofs.YtciilodpnepdbaaDoor.Program) (I:List (List Bool)) (t:List Int) (k:Int):iV p I (t++[k])=pP p I (iV p I t) k:=by simp [iV,List.foldl_append]
theorem sL {p:Go.Proofs.YtciilodpnepdbaaDoor.Program} {I:List (List Bool)} {t:List Int} {i:Nat} {k:Int} (h:t[i]?=some k):iV p I (t.take (i+1))=pP p I (iV p I (t.take i)) k:=by
 rw [List.take_add_one,h];exact qAA p I _ k
theorem yT {p:Go.Proofs.YtciilodpnepdbaaDoor.Program} (h:Slim p) (I:List (List Bool)) (t:List Int):MOk (iV p I t):=by
 have key:∀ (t:List Int) (m:Machine),MOk m->MOk (t.foldl (pP p I) m):=by
  intro t
  induction t with
  | nil=>intro m hm;exact hm
  | cons x r ih=>
   intro m hm;refine ih _ ?_;unfold pP;split
   ·exact qEP h _
   exact hm
 exact key t _ (uV h)
theorem qBD {p:Go.Proofs.YtciilodpnepdbaaDoor.Program} (h:Slim p) (I:List (List Bool)) {t:List Int} (ht:t.length<=iZ):cQ p I t=some (iV p I t):=by
 unfold iZ at ht;unfold cQ;rw [sO h.ok,aA,jR (s:=((0:Int),(eT p).vars,(eT p).counts,(eT p).halted)) (λi=>((i:Int),(iV p I (t.take i)).vars,(iV p I (t.take i)).counts,(iV p I (t.take i)).halted)) t.length (o:=((iV p I t).vars,(iV p I t).counts,(iV p I t).halted)) rfl ht ?_ ?_]
 ·rfl
 ·intro i hi;have hx:=zQR hi;dsimp only;rw [if_pos (by omega),aR hx,sL hx];unfold pP;by_cases hc:0<=t[i]/\t[i] < (I.length:Int)
  ·rw [if_pos (by simpa using hc), if_pos hc];have hI:I[t[i].toNat]?=some I[t[i].toNat]:=zQR (by omega);rw [dL hc.1 hI,Scan26 h (yT h I _),aA,aC (cD hi ht),zQD,hI];rfl
  rw [if_neg (by simpa using hc), if_neg hc, aC (cD hi ht)];rfl
 dsimp only;rw [if_neg (by omega),List.take_length];rfl
theorem xH {p:Go.Proofs.YtciilodpnepdbaaDoor.Program} (h:Slim p) (I:List (List Bool)) {t:List Int} (ht:t.length<=iZ):eF p I t=some (iV p I t):=by
 unfold iZ at ht;unfold eF;rw [vP h,aA,jR (s:=((0:Int),(eT p).vars,(eT p).counts,(eT p).halted)) (λi=>((i:Int),(iV p I (t.take i)).vars,(iV p I (t.take i)).counts,(iV p I (t.take i)).halted)) t.length (o:=((iV p I t).vars,(iV p I t).counts,(iV p I t).halted)) rfl ht ?_ ?_]
 ·rfl
 ·intro i hi;have hx:=zQR hi;dsimp only;rw [if_pos (by omega),aR hx,aR hx,aR hx,sL hx];unfold pP;by_cases hc:0<=t[i]/\t[i] < (I.length:Int)
  ·rw [if_pos hc.1,aA,decide_eq_true hc.2,if_pos rfl,if_pos hc];have hI:I[t[i].toNat]?=some I[t[i].toNat]:=zQR (by omega);rw [dL hc.1 hI,qEY h,aA,aC (cD hi ht),zQD,hI];rfl
  have e1:(if (0:Int)<=t[i] then some (decide (t[i] < (I.length:Int))) else some false)=some false:=by
   split
   ·rw [decide_eq_false (λh2=>hc ⟨by assumption,h2⟩)]
   rfl
  rw [e1,aA,if_neg (by simp),if_neg hc,aC (cD hi ht)];rfl
 dsimp only;rw [if_neg (by omega),List.take_length];rfl
theorem rL {p0:Go.Proofs.YtciilodpnepdbaaDoor.Program} {p1:List (List Bool)} {p2:List Int} (w0:Go.Proofs.YtciilodpnepdbaaDoor.Program.Wf p0) (w1:p1.length<=reachBytes/\∀ y∈p1,y.length<=reachBytes/\∀ z∈y,True) (w2:p2.length<=reachBytes/\∀ y∈p2,I64 y) {k1 k2:Nat} {f:List Bool->D} (hb:D.bulks [p0.enc,.sl k1 (p1.map f),.sl k2 (p2.map (D.int .i64))]<=1048576):cV p0 p1 p2=some true:=by
 have hp:p0.enc.bulk<=1048576:=by simp only [D.bulks] at hb;omega
 have h:=zW w0 hp;have ht:p2.length<=iZ:=by have:=xO w2.1;unfold iZ;omega
 obtain⟨b,hf⟩:=few26 (p:=p0) (l:=[]) (I:=p1) ⟨h,by simp,by simp,by have:=xO w1.1;unfold iZ;omega⟩;unfold cV;rw [hf,aA,qGA]
 have key : ∀ x : Bool, (if x = true then aB (some true) fun r6 => some r6 else
  aB (
   aB (cQ p0 p1 p2) fun r9 =>
   aB (eF p0 p1 p2) fun r10 =>
   aB (eU r9 r10) fun r11 =>
   if r11 = true then
    aB (some true) fun r13 =>
    some r13
   else
    some false) fun x7 =>
  some x7) = some true := by
  intro x
  cases x with
  | true=>rfl
  | false=>
   rw [if_neg Bool.false_ne_true,qBD h p1 ht,aA,xH h p1 ht,aA,same20 (yT h p1 p2),aA,decide_eq_true rfl];rfl
 cases b with
 | false=>exact key true
 | true=>
  rw [if_neg (by simp),aA];exact key _
end Go.Proofs.YtciilodpnepdbaaDoor
