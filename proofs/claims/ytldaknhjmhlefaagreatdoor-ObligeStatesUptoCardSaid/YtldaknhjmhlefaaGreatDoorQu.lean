/- Texts of this proof, joined, without what it does not use. No condition. -/
import Derived.Test.YtldaknhjmhlefaaGreatDoorQt

set_option maxHeartbeats 8000000
set_option linter.unusedSimpArgs false
set_option linter.unusedVariables false
set_option maxRecDepth 20000
namespace Go.Proofs.YtldaknhjmhlefaaGreatDoor
open Go Go.TL Go.Proofs.Tryz
theorem wJ {p0:Ao} {p1:Int} {r:Ao} (hm:jD p0 p1=some r):Ret TP 70 [.box 111 [.d (.sl 14 (p0.t.Ac.map Aj.enc)),.d (.sl 1 (p0.t.Ae.map (D.int .i64))),.d (.sl 1 (p0.t.As.map (D.int .i64))),.d (.int .i64 p0.t.Aa),.d (.int .i64 p0.t.Al),.d (.int .i64 p0.p.Ae),.d (.int .i64 p0.p.Ac),.d (.int .i64 p0.p.lies),.d (.int .i64 p0.p.aux),.d (.int .i64 p0.p.all),.d (.sl 1 (p0.p.states.map (D.int .i64))),.msl 1 6 0 p0.An.length],.flat 64 6 (p0.An.map At.enc)] (λj=>Nat.beq j 1) [.mptr 0 0 0 0,.d (.int .i64 p1)] (.tup []) [.box 111 [.d (.sl 14 (p0.t.Ac.map Aj.enc)),.d (.sl 1 (p0.t.Ae.map (D.int .i64))),.d (.sl 1 (p0.t.As.map (D.int .i64))),.d (.int .i64 p0.t.Aa),.d (.int .i64 p0.t.Al),.d (.int .i64 p0.p.Ae),.d (.int .i64 p0.p.Ac),.d (.int .i64 p0.p.lies),.d (.int .i64 p0.p.aux),.d (.int .i64 p0.p.all),.d (.sl 1 (p0.p.states.map (D.int .i64))),.msl 1 6 0 r.An.length],.flat 64 6 (r.An.map At.enc)]:=by
 refine cA (bA Q) func70 Q ntmps70 Q Q (λwX gX=>?_);unfold jD at hm;refine WN [0,1] Q Q (aP 7 Q (VE hm λe1 he1 hm=>SX Q Q (bR TK Q Q Q Q he1) (aH 1 Q (cD 2 Q Q fL Q (bY 2 [none,none,none,some 3,some 2,some 1,none,none,some 3,some 2,some 1,some 2,some 1,some 2] Q Q (aH 6 Q (BE hm λr2 hr2 hm=>?_)))))));refine SX Q Q (aK [0,1] ⟨Q,Q,λ_=>Q⟩ Q Q Q (by decide) Q (aF Q) Q Q (fP hr2)) ?_;refine aH 2 Q (BE hm λr3 hr3 hm=>?_);refine SX Q Q (aK [0,1] ⟨Q,Q,λ_=>Q⟩ Q Q Q (by decide) Q (aF Q) Q Q (cG hr3)) ?_;refine c_D hm (eM ·) Q Q Q Q λr4 hm=>qFS (f:=Ad.Aq) 3 [.tmp 25,.tmp 29] ([r2,r4]:List Ad) TK Q Q Q aJ Q (bF Q (aE (Ad.Ai _) (aE (Ad.Ai _) aS))) Q (aO Ad.Ak) Q (aG 3 Q (WN [0,1,4,5] Q Q (aL hm (λb5=>([(5,.msl 3 3 0 b5.length)])) (λb5=>([(3,.flat 40 3 (b5.map Ad.Aq))])) [5] [0,1,4] Q (λz6 hm=>?_) (λb5 hm=>?_))))
 ·refine bK 5 Q (aT hm (λ(i10,b11)=>([(5,.msl 3 3 0 b11.length),(6,.d (.int .i64 i10))])) (λ(i10,b11)=>([(3,.flat 40 3 (b11.map Ad.Aq))])) [5,6] [0,1,4] [0,1,2,3] Q (kB Q) Q Q Q Q Q (λs z12 hm hz12=>?_));obtain⟨i10,b11⟩:=s;refine WN [0,1,4,5,6] Q Q (aP 5 Q (SX Q Q (aU TK Q Q Q) (aG 3 Q (bG hm Q (λh13 hm=>?_) (λh13 hm=>?_)))))
  ·refine aM 9 Q (VE hm λe14 he14 hm=>SX Q Q (bR TK Q Q Q Q he14) (aH 1 Q (GE hm λg15 hm=>SX Q Q (aZ Q Q Q Q g15) (GE hm λg16 hm=>SX Q Q (aZ Q Q Q Q g16) (c_D hm (fJ ·) Q Q Q Q λr17 hm=>SX Q Q (bJ (f:=Ad.Aq) (xs:=([r17]:List Ad)) [.tmp 46] TK Q Q aJ Q (bF Q (aE (Ad.Ai _) aS)) Q (aO Ad.Ak) Q) (GE hm λg18 hm=>?_))))));refine cF (f:=Ad.Aq) ([r17]:List Ad) TK Q Q aJ Q Q Q Q Q (λh=>absurd (show 3 < 2 from h) (by decide)) Q bZ g18 Q Q ?_;exact aG 4 Q (WN [0,1,4,5,6] Q Q (aM 2 Q (GE hm λg19 hm=>SX Q Q (aZ Q Q Q Q g19) (aI 2 Q (e_l [0,1,2,3] hm Q (kB Q) Q)))))
  refine aQ 2 Q (IE hm λv20 hm hz=>?_);rw [hz12 _ hz] at hm;exact WX (bP 1 Q (e_j [0,1,2,3] hm Q (kB Q) Q))
 refine WN [0,1,4,5] Q Q (aL hm (λb21=>([(5,.msl 3 3 0 b21.length)])) (λb21=>([(3,.flat 40 3 (b21.map Ad.Aq))])) [5] [0,1,4] Q (λz22 hm=>?_) (λb21 hm=>?_))
 ·refine bK 5 Q (aT hm (λ(i26,b27)=>([(5,.msl 3 3 0 b27.length),(7,.d (.int .i64 i26))])) (λ(i26,b27)=>([(3,.flat 40 3 (b27.map Ad.Aq))])) [5,7] [0,1,4] [0,1,2,3] Q (kB Q) Q Q Q Q Q (λs z28 hm hz28=>?_));obtain⟨i26,b27⟩:=s;refine WN [0,1,4,5,7] Q Q (aP 5 Q (SX Q Q (aU TK Q Q Q) (aG 3 Q (bG hm Q (λh29 hm=>?_) (λh29 hm=>?_)))))
  ·refine aM 9 Q (VE hm λe30 he30 hm=>SX Q Q (bR TK Q Q Q Q he30) (aH 1 Q (GE hm λg31 hm=>SX Q Q (aZ Q Q Q Q g31) (GE hm λg32 hm=>SX Q Q (aZ Q Q Q Q g32) (c_D hm (fJ ·) Q Q Q Q λr33 hm=>SX Q Q (bJ (f:=Ad.Aq) (xs:=([r33]:List Ad)) [.tmp 64] TK Q Q aJ Q (bF Q (aE (Ad.Ai _) aS)) Q (aO Ad.Ak) Q) (GE hm λg34 hm=>?_))))));refine cF (f:=Ad.Aq) ([r33]:List Ad) TK Q Q aJ Q Q Q Q Q (λh=>absurd (show 3 < 2 from h) (by decide)) Q bZ g34 Q Q ?_;exact aG 4 Q (WN [0,1,4,5,7] Q Q (aM 2 Q (GE hm λg35 hm=>SX Q Q (aZ Q Q Q Q g35) (aI 2 Q (e_l [0,1,2,3] hm Q (kB Q) Q)))))
  refine aQ 2 Q (IE hm λv36 hm hz=>?_);rw [hz28 _ hz] at hm;exact WX (bP 1 Q (e_j [0,1,2,3] hm Q (kB Q) Q))
 refine WN [0,1,4,5] Q Q (aL hm (λb37=>([(5,.msl 3 3 0 b37.length)])) (λb37=>([(3,.flat 40 3 (b37.map Ad.Aq))])) [5] [0,1,4] Q (λz38 hm=>?_) (λb37 hm=>?_))
 ·refine bK 5 Q (aT hm (λ(o42,b43)=>([(5,.msl 3 3 0 b43.length),(8,.d (.int .i64 o42))])) (λ(o42,b43)=>([(3,.flat 40 3 (b43.map Ad.Aq))])) [5,8] [0,1,4] [0,1,2,3] Q (kB Q) Q Q Q Q Q (λs z44 hm hz44=>?_));obtain⟨o42,b43⟩:=s;refine WN [0,1,4,5,8] Q Q (aP 8 Q (SX Q Q (aU TK Q Q Q) (aG 3 Q (bG hm Q (λh45 hm=>?_) (λh45 hm=>?_)))))
  ·refine aM 11 Q (c_N hm (qKE ·) Q Q Q Q λr46 hm=>aG 3 Q (WN [0,1,4,5,8,9] Q Q (cR 1 Q ?_)));refine iC [(90,.d (.bool (((decide (o42=p1))||(decide (r46 < (0:Int)))))))] [90] [0,1,4,5,8,9] Q ?_ ?_
   ·refine aP 4 Q (SB TK Q (λq47 hq47=>?_));cases q47
    ·refine aI 4 Q ?_;exact⟨[0,1,2,3],Q,(kB Q),bX (aV (aX (by first|(simp [hq47];done)|(simp only [hq47];simp))) Q) Q⟩
    refine aI 4 Q ?_;exact⟨[0,1,2,3],Q,(kB Q),bX (aV (aX (by first|(simp [hq47];done)|(simp only [hq47];simp))) Q) Q⟩
   refine WN [0,1,4,5,8,9,90] Q Q (cP hm Q (λh48 hm=>?_) (λh48 hm=>?_))
   ·exact aM 6 Q (GE hm λg49 hm=>SX Q Q (aZ Q Q Q Q g49) (aI 2 Q (e_l [0,1,2,3] hm Q (kB Q) Q)))
   refine aM 5 Q (BE hm λr50 hr50 hm=>?_);refine SX Q Q (aK [0,1] ⟨Q,Q,λ_=>Q⟩ Q Q Q (by decide) Q (aF Q) Q Q (cG hr50)) ?_;refine cD 4 Q Q aJ Q (bY 4 [none,none,some 3] Q Q (aG 3 Q (WN [0,1,4,5,8,9,10] Q Q (aL hm (λ(c51,c52,c53)=>[]) (λ(c51,c52,c53)=>([(4,.box 40 [.d (.int .i64 c51),.d (.int .i64 c52),.d (.sl 3 (c53.map Ad.Aq))])])) [] [0,1,4,5,8,10] Q (λz54 hm=>?_) (λj hm=>?_)))))
   ·refine aP 4 Q (BE hm λr55 hr55 hm=>?_);refine SX Q Q (aK [0,1] ⟨Q,Q,λ_=>Q⟩ Q Q Q (by decide) Q (aF Q) Q Q (gY hr55)) ?_;refine aG 3 Q (bG hm Q (λh56 hm=>?_) (λh56 hm=>?_))
    ·refine cU follows ?_;iterate 4 (refine DA [0,1,2,3,4] TK Q ?_)
     refine BE hm λr57 hr57 hm=>?_;refine DX [0,1,2,3,4] Q Q (aK [0,1] ⟨Q,Q,λ_=>Q⟩ Q Q Q (by decide) Q (aF Q) Q Q (iG hr57)) ?_;refine cL [0,1,2,3,4] hm (eM ·) Q Q Q Q λr58 hm=>DX [0,1,2,3,4] Q Q (bJ (f:=Ad.Aq) (xs:=([r50,r58]:List Ad)) [.tmp 99,.tmp 104] TK Q Q aJ Q (bF Q (aE (Ad.Ai _) (aE (Ad.Ai _) aS))) Q (aO Ad.Ak) Q) (cL [0,1,2,3,4] hm (eH ·) Q Q Q Q λr59 hm=>?_);refine DT ?_ (by kernel_rfl);exact aI 2 Q (e_j [0,1,2,3,4] hm Q (kB Q) Q)
    exact aQ 1 Q (e_j [0,1,2,3,4] hm Q (kB Q) Q)
   obtain⟨c51,c52,c53⟩:=j;refine WN [0,1,4,5,8,10] Q Q (aL hm (λ(c60,c61,c62)=>[]) (λ(c60,c61,c62)=>([(4,.box 40 [.d (.int .i64 c60),.d (.int .i64 c61),.d (.sl 3 (c62.map Ad.Aq))])])) [] [0,1,4,5,8,10] Q (λz63 hm=>?_) (λj hm=>?_))
   ·refine bK 6 Q (bG hm Q (λh64 hm=>?_) (λh64 hm=>?_))
    ·refine cU follows ?_;iterate 3 (refine DA [0,1,2,3,4] TK Q ?_)
     refine BE hm λr65 hr65 hm=>?_;refine DX [0,1,2,3,4] Q Q (aK [0,1] ⟨Q,Q,λ_=>Q⟩ Q Q Q (by decide) Q (aF Q) Q Q (cG hr65)) ?_;refine DX [0,1,2,3,4] Q Q (bJ (f:=Ad.Aq) (xs:=([(⟨c51,c52,c53⟩:Ad),r65]:List Ad)) [.tmp 110,.tmp 113] TK Q Q aJ Q (bF Q (aE (Ad.Ai _) (aE (Ad.Ai _) aS))) Q (aO Ad.Ak) Q) (cL [0,1,2,3,4] hm (gE ·) Q Q Q Q λr66 hm=>?_);refine DT ?_ (by kernel_rfl);exact aI 2 Q (e_j [0,1,2,3,4] hm Q (kB Q) Q)
    exact aQ 1 Q (e_j [0,1,2,3,4] hm Q (kB Q) Q)
   obtain⟨c60,c61,c62⟩:=j;refine WN [0,1,4,5,8,10] Q Q (aM 3 Q (c_D hm (eM ·) Q Q Q Q λr67 hm=>SX Q Q (bJ (f:=Ad.Aq) (xs:=([r67]:List Ad)) [.tmp 118] TK Q Q aJ Q (bF Q (aE (Ad.Ai _) aS)) Q (aO Ad.Ak) Q) (GE hm λg68 hm=>?_)));refine cF (f:=Ad.Aq) ([r67]:List Ad) TK Q Q aJ Q Q Q Q Q (λh=>absurd (show 3 < 2 from h) (by decide)) Q bZ g68 Q Q ?_;exact aG 4 Q (WN [0,1,4,5,8] Q Q (aM 2 Q (GE hm λg69 hm=>SX Q Q (aZ Q Q Q Q g69) (aI 2 Q (e_l [0,1,2,3] hm Q (kB Q) Q)))))
  refine aQ 2 Q (IE hm λv70 hm hz=>?_);rw [hz44 _ hz] at hm;exact WX (bP 1 Q (e_j [0,1,2,3] hm Q (kB Q) Q))
 refine WN [0,1,4,5] Q Q (aM 2 Q (c_D hm (jI ·) Q Q Q Q λr71 hm=>aG 3 Q (aL hm (λb72=>([(5,.msl 3 3 0 b72.length)])) (λb72=>([(3,.flat 40 3 (b72.map Ad.Aq))])) [5] [0,1] Q (λz73 hm=>?_) (λb72 hm=>?_))))
 ·refine bK 5 Q (aT hm (λ(i77,b78)=>([(5,.msl 3 3 0 b78.length),(12,.d (.int .i64 i77))])) (λ(i77,b78)=>([(3,.flat 40 3 (b78.map Ad.Aq))])) [5,12] [0,1,11] [0,1,2,3] Q (kB Q) Q Q Q Q Q (λs z79 hm hz79=>?_));obtain⟨i77,b78⟩:=s;refine WN [0,1,5,11,12] Q Q (aP 4 Q (SX Q Q (aU TK Q Q Q) (aG 3 Q (bG hm Q (λh80 hm=>?_) (λh80 hm=>?_)))))
  ·refine cR 4 Q (bV follows ?_);iterate 6 (refine DA [0,1,2,3] TK Q ?_)
   refine VE hm λe81 he81 hm=>DX [0,1,2,3] Q Q (bR TK Q Q Q Q he81) ?_;iterate 2 (refine DA [0,1,2,3] TK Q ?_)
   refine fE [0,1,2,3] hm (lN ·) Q Q Q Q λr82 hm=>?_;refine DT ?_ (by kernel_rfl);refine aH 10 Q (GE hm λg83 hm=>SX Q Q (aZ Q Q Q Q g83) (c_D hm (fJ ·) Q Q Q Q λr84 hm=>cD 4 Q Q aJ Q (bY 4 [none,none,some 3] Q Q (aG 3 Q (WN [0,1,5,11,12,13,14] Q Q (aL hm (λ(c85,c86,c87)=>[]) (λ(c85,c86,c87)=>([(4,.box 40 [.d (.int .i64 c85),.d (.int .i64 c86),.d (.sl 3 (c87.map Ad.Aq))])])) [] [0,1,5,11,12,13,14] Q (λz88 hm=>?_) (λj hm=>?_)))))))
   ·refine aP 3 Q (VE hm λe89 he89 hm=>SX Q Q (bR TK Q Q Q Q he89) (aG 5 Q (bG hm Q (λh90 hm=>?_) (λh90 hm=>?_))))
    ·exact aM 2 Q (c_D hm (eM ·) Q Q Q Q λr91 hm=>aI 2 Q (e_j [0,1,2,3,4] hm Q (kB Q) Q))
    exact aQ 1 Q (e_j [0,1,2,3,4] hm Q (kB Q) Q)
   obtain⟨c85,c86,c87⟩:=j;refine WN [0,1,5,11,12,13,14] Q Q (cU follows ?_);iterate 9 (refine DA [0,1,2,3,4] TK Q ?_)
   refine VE hm λe92 he92 hm=>DX [0,1,2,3,4] Q Q (bR TK Q Q Q Q he92) (DA [0,1,2,3,4] TK Q (BE hm λr93 hr93 hm=>?_));refine DX [0,1,2,3,4] Q Q (aK [0,1] ⟨Q,Q,λ_=>Q⟩ Q Q Q (by decide) Q (aF Q) Q Q (dS hr93)) ?_;refine DX [0,1,2,3,4] Q Q (bJ (f:=Ad.Aq) (xs:=([(⟨c85,c86,c87⟩:Ad),r93]:List Ad)) [.tmp 156,.tmp 166] TK Q Q aJ Q (bF Q (aE (Ad.Ai _) (aE (Ad.Ai _) aS))) Q (aO Ad.Ak) Q) (cL [0,1,2,3,4] hm (gE ·) Q Q Q Q λr94 hm=>DX [0,1,2,3,4] Q Q (bJ (f:=Ad.Aq) (xs:=([r94]:List Ad)) [.tmp 168] TK Q Q aJ Q (bF Q (aE (Ad.Ai _) aS)) Q (aO Ad.Ak) Q) ?_);refine DT ?_ (by kernel_rfl);refine GE hm λg95 hm=>?_;refine cF (f:=Ad.Aq) ([r94]:List Ad) TK Q Q aJ Q Q Q Q Q (λh=>absurd (show 3 < 2 from h) (by decide)) Q bZ g95 Q Q ?_;exact aG 4 Q (WN [0,1,5,11,12] Q Q (aM 2 Q (GE hm λg96 hm=>SX Q Q (aZ Q Q Q Q g96) (aI 2 Q (e_l [0,1,2,3] hm Q (kB Q) Q)))))
  refine aQ 2 Q (IE hm λv97 hm hz=>?_);rw [hz79 _ hz] at hm;exact WX (bP 1 Q (e_j [0,1,2,3] hm Q (kB Q) Q))
 refine WN [0,1,5] Q Q ?_;refine kM 5 3 [0,1] Q Q Q Q Q (by simp) Q Q ?_;refine aM 4 Q (BE hm λr98 hr98 hm=>?_);refine SX Q Q (aK [0,1] ⟨Q,Q,λ_=>Q⟩ Q Q Q (by decide) Q (aF Q) Q Q (cG hr98)) ?_;refine aH 1 Q (c_D hm (eH ·) Q Q Q Q λr99 hm=>BE hm λr100 hr100 hm=>?_);refine dE [0,1] (λj=>Nat.beq j 1) Q Q Q (by decide) Q Q Q Q (eI hr100) Q Q Q ?_;refine aI 1 Q ?_;obtain rfl:=OJ hm;exact⟨_,[0,1],res Q,by decide,(kB Q),Q,Q⟩
theorem zA {p0:Ao} {p1:Int} {r:Ao} (hm:kF p0 p1=some r):Ret TP 75 [.box 111 [.d (.sl 14 (p0.t.Ac.map Aj.enc)),.d (.sl 1 (p0.t.Ae.map (D.int .i64))),.d (.sl 1 (p0.t.As.map (D.int .i64))),.d (.int .i64 p0.t.Aa),.d (.int .i64 p0.t.Al),.d (.int .i64 p0.p.Ae),.d (.int .i64 p0.p.Ac),.d (.int .i64 p0.p.lies),.d (.int .i64 p0.p.aux),.d (.int .i64 p0.p.all),.d (.sl 1 (p0.p.states.map (D.int .i64))),.msl 1 6 0 p0.An.length],.flat 64 6 (p0.An.map At.enc)] (λj=>Nat.beq j 1) [.mptr 0 0 0 0,.d (.int .i64 p1)] (.tup []) [.box 111 [.d (.sl 14 (p0.t.Ac.map Aj.enc)),.d (.sl 1 (p0.t.Ae.map (D.int .i64))),.d (.sl 1 (p0.t.As.map (D.int .i64))),.d (.int .i64 p0.t.Aa),.d (.int .i64 p0.t.Al),.d (.int .i64 p0.p.Ae),.d (.int .i64 p0.p.Ac),.d (.int .i64 p0.p.lies),.d (.int .i64 p0.p.aux),.d (.int .i64 p0.p.all),.d (.sl 1 (p0.p.states.map (D.int .i64))),.msl 1 6 0 r.An.length],.flat 64 6 (r.An.map At.enc)]:=by
 refine cA (bA Q) func75 Q ntmps75 Q Q (λwX gX=>?_);unfold kF at hm;refine WN [0,1] Q Q (aP 1 Q (fM (f:=Ad.Aq) 2 40 3 Q Q Q (fM (f:=Ad.Aq) 3 40 3 Q Q Q (aG 2 Q (aL hm (λ(b1,b2)=>([(4,.msl 2 3 0 b1.length),(5,.msl 3 3 0 b2.length)])) (λ(b1,b2)=>([(2,.flat 40 3 (b1.map Ad.Aq)),(3,.flat 40 3 (b2.map Ad.Aq))])) [4,5] [0,1] Q (λz3 hm=>?_) (λj hm=>?_))))))
 ·refine bK 5 Q (aT hm (λ(x8,b9,b10)=>([(4,.msl 2 3 0 b9.length),(5,.msl 3 3 0 b10.length),(6,.d (.int .i64 x8))])) (λ(x8,b9,b10)=>([(2,.flat 40 3 (b9.map Ad.Aq)),(3,.flat 40 3 (b10.map Ad.Aq))])) [4,5,6] [0,1] [0,1,2,3] Q (kB Q) Q Q Q Q Q (λs z11 hm hz11=>?_));obtain⟨x8,b9,b10⟩:=s;refine WN [0,1,4,5,6] Q Q (aP 8 Q (SX Q Q (aU TK Q Q Q) (aG 3 Q (bG hm Q (λh12 hm=>?_) (λh12 hm=>?_)))))
  ·refine aM 11 Q (VE hm λe13 he13 hm=>SX Q Q (bR TK Q Q Q Q he13) (aH 1 Q (c_D hm (jI ·) Q Q Q Q λr14 hm=>aG 3 Q (WN [0,1,4,5,6,7] Q Q (aL hm (λb15=>([(4,.msl 2 3 0 b15.length)])) (λb15=>([(2,.flat 40 3 (b15.map Ad.Aq))])) [4] [0,1,5,6,7] Q (λz16 hm=>?_) (λb15 hm=>?_))))))
   ·refine aP 8 Q (VE hm λe17 he17 hm=>SX Q Q (bR TK Q Q Q Q he17) (aH 1 Q (SX Q Q (cJ Q qVT fT Q Q Q Q) (c_N hm (uO ·) Q Q Q Q λr18 hm=>aG 2 Q (cP hm Q (λh19 hm=>?_) (λh19 hm=>?_))))))
    ·refine aM 4 Q (BE hm λr20 hr20 hm=>?_);refine SX Q Q (aK [0,1] ⟨Q,Q,λ_=>Q⟩ Q Q Q (by decide) Q (aF Q) Q Q (cG hr20)) ?_;refine SX Q Q (bJ (f:=Ad.Aq) (xs:=([r20]:List Ad)) [.tmp 42] TK Q Q aJ Q (bF Q (aE (Ad.Ai _) aS)) Q (aO Ad.Ak) Q) (GE hm λg21 hm=>?_);refine cF (f:=Ad.Aq) ([r20]:List Ad) TK Q Q aJ Q Q Q Q Q (λh=>absurd (show 2 < 2 from h) (by decide)) Q bZ g21 Q Q ?_;exact aI 2 Q (e_j [0,1,2,3] hm Q (kB Q) Q)
    exact aQ 1 Q (e_j [0,1,2,3] hm Q (kB Q) Q)
   refine WN [0,1,4,5,6,7] Q Q (aM 8 Q (VE hm λe22 he22 hm=>SX Q Q (bR TK Q Q Q Q he22) (aH 1 Q (SX Q Q (cJ Q qVT fT Q Q Q Q) (c_N hm (uO ·) Q Q Q Q λr23 hm=>aG 2 Q (cP hm Q (λh24 hm=>?_) (λh24 hm=>?_)))))))
   ·refine aM 4 Q (BE hm λr25 hr25 hm=>?_);refine SX Q Q (aK [0,1] ⟨Q,Q,λ_=>Q⟩ Q Q Q (by decide) Q (aF Q) Q Q (cG hr25)) ?_;refine SX Q Q (bJ (f:=Ad.Aq) (xs:=([r25]:List Ad)) [.tmp 59] TK Q Q aJ Q (bF Q (aE (Ad.Ai _) aS)) Q (aO Ad.Ak) Q) (GE hm λg26 hm=>?_);refine cF (f:=Ad.Aq) ([r25]:List Ad) TK Q Q aJ Q Q Q Q Q (λh=>absurd (show 3 < 2 from h) (by decide)) Q bZ g26 Q Q ?_;exact aG 4 Q (WN [0,1,4,5,6] Q Q (aM 2 Q (GE hm λg27 hm=>SX Q Q (aZ Q Q Q Q g27) (aI 2 Q (e_l [0,1,2,3] hm Q (kB Q) Q)))))
   exact aM 5 Q (GE hm λg28 hm=>SX Q Q (aZ Q Q Q Q g28) (aI 2 Q (e_l [0,1,2,3] hm Q (kB Q) Q)))
  refine aQ 2 Q (IE hm λv29 hm hz=>?_);rw [hz11 _ hz] at hm;exact WX (bP 1 Q (e_j [0,1,2,3] hm Q (kB Q) Q))
 obtain⟨b1,b2⟩:=j;refine WN [0,1,4,5] Q Q (aM 7 Q (GE hm λg30 hm=>SX Q Q (aZ Q Q Q Q g30) (c_D hm (fJ ·) Q Q Q Q λr31 hm=>cD 4 Q Q aJ Q (bY 4 [none,none,some 3] Q Q (aG 3 Q (WN [0,4,5,8] Q Q ?_))))));refine kM 5 3 [0,4,8] Q Q Q Q Q (by simp) Q Q ?_;refine kM 4 2 [0,5,8] Q Q Q Q Q (by simp) Q Q ?_;refine cU follows ?_;iterate 3 (refine DA [0,1,2,3,4] TK Q ?_)
 refine cL [0,1,2,3,4] hm (gE ·) Q Q Q Q λr32 hm=>?_;iterate 2 (refine DA [0,1,2,3,4] TK Q ?_)
 refine cL [0,1,2,3,4] hm (gE ·) Q Q Q Q λr33 hm=>cL [0,1,2,3,4] hm (eM ·) Q Q Q Q λr34 hm=>DX [0,1,2,3,4] Q Q (bJ (f:=Ad.Aq) (xs:=([r31,r34]:List Ad)) [.tmp 74,.tmp 77] TK Q Q aJ Q (bF Q (aE (Ad.Ai _) (aE (Ad.Ai _) aS))) Q (aO Ad.Ak) Q) (cL [0,1,2,3,4] hm (eH ·) Q Q Q Q λr35 hm=>DX [0,1,2,3,4] Q Q (bJ (f:=Ad.Aq) (xs:=([r32,r35]:List Ad)) [.tmp 73,.tmp 79] TK Q Q aJ Q (bF Q (aE (Ad.Ai _) (aE (Ad.Ai _) aS))) Q (aO Ad.Ak) Q) (cL [0,1,2,3,4] hm (gE ·) Q Q Q Q λr36 hm=>?_));refine DT ?_ (by kernel_rfl);refine BE hm λr37 hr37 hm=>?_;refine dE [0,1] (λj=>Nat.beq j 1) Q Q Q (by decide) Q Q Q Q (eI hr37) Q Q Q ?_;refine aI 1 Q ?_;obtain rfl:=OJ hm;exact⟨_,[0,1],res Q,by decide,(kB Q),Q,Q⟩
theorem qHX {p0:Am} {r0:Program} {r1:Int} (hm:lL p0=some (r0,r1)):RetT TP 28 [p0.enc] [r0.enc,.int .i64 r1]:=by
 refine .of (mv:=λ_=>false) (jY (bA Q) func28 Q ntmps28 Q Q (λwX gX=>?_));unfold lL at hm;refine WN [0] Q Q (aP 1 Q (cT 0 Q Q Q (cD 1 Q Q sR Q (bY 1 [some 1,none,some 6] Q Q (aH 5 Q (c_N hm (qMW ·) Q Q Q Q λr1 hm=>aG 9 Q (qD hm Q (λh2 hm=>?_) (λh2 hm=>?_))))))))
 ·refine aM 1 Q (SX Q Q (cJ Q qOD sR Q Q Q Q) (qPE 17 [some 1,none,some 6] Q (aI 7 Q ?_)));obtain⟨rfl,rfl⟩:=Prod.mk.inj (Option.some.inj hm);exact⟨_,.mk _ (.cons (.agg (TK.lay Q) Q Q Q Q) (.cons (.tmp 3) .nil)) Q,(.cons (.d _) (.refl _) (.cons (.d _) (.refl _) .nil))⟩
 refine cR 2 Q (bV follows ?_);iterate 2 (refine DA [0,1] TK Q ?_)
 refine cL [0,1] hm (lV ·) Q Q Q Q λr3 hm=>DX [0,1] Q Q (kG Q plc111 zEB Q Q Q Q) ?_;refine DT ?_ (by kernel_rfl);refine cT 2 Q Q Q (aG 3 Q (zHQ (f:=At.enc) 2 11 3 64 6 Q Q Q (cR 10 Q (WN [1,2,5,29] Q Q (bG hm Q (λh4 hm=>?_) (λh4 hm=>?_))))))
 ·refine aM 1 Q (SX Q Q (cJ Q qOD sR Q Q Q Q) (qPE 30 [some 1,none,some 6] Q (aI 6 Q ?_)));obtain⟨rfl,rfl⟩:=Prod.mk.inj (Option.some.inj hm);exact⟨_,.mk _ (.cons (.agg (TK.lay Q) Q Q Q Q) (.cons (.tmp 3) .nil)) Q,(.cons (.d _) (.refl _) (.cons (.d _) (.refl _) .nil))⟩
 refine cR 2 Q (aL hm (λb5=>[]) (λb5=>([(2,.box 111 [.d (.sl 14 (p0.Ac.map Aj.enc)),.d (.sl 1 (p0.Ae.map (D.int .i64))),.d (.sl 1 (p0.As.map (D.int .i64))),.d (.int .i64 p0.Aa),.d (.int .i64 p0.Al),.d (.int .i64 r3.Ae),.d (.int .i64 r3.Ac),.d (.int .i64 r3.lies),.d (.int .i64 r3.aux),.d (.int .i64 r3.all),.d (.sl 1 (r3.states.map (D.int .i64))),.msl 3 6 0 b5.length]),(3,.flat 64 6 (b5.map At.enc))])) [] [1,2,5] Q (λz6 hm=>?_) (λb5 hm=>?_))
 ·refine bK 5 Q (aT hm (λ(x10,b11)=>([(6,.d (.int .i64 x10))])) (λ(x10,b11)=>([(2,.box 111 [.d (.sl 14 (p0.Ac.map Aj.enc)),.d (.sl 1 (p0.Ae.map (D.int .i64))),.d (.sl 1 (p0.As.map (D.int .i64))),.d (.int .i64 p0.Aa),.d (.int .i64 p0.Al),.d (.int .i64 r3.Ae),.d (.int .i64 r3.Ac),.d (.int .i64 r3.lies),.d (.int .i64 r3.aux),.d (.int .i64 r3.all),.d (.sl 1 (r3.states.map (D.int .i64))),.msl 3 6 0 b11.length]),(3,.flat 64 6 (b11.map At.enc))])) [6] [1,2,5] [0,1,2,3] Q k0 Q Q Q Q Q (λs z12 hm hz12=>?_));obtain⟨x10,b11⟩:=s;refine WN [1,2,5,6] Q Q (aP 5 Q (SX Q Q (aU TK Q Q Q) (aG 3 Q (bG hm Q (λh13 hm=>?_) (λh13 hm=>?_)))))
  ·refine aM 7 Q (BE hm λr14 hr14 hm=>?_);refine dE [2,3] (λj=>Nat.beq j 1) Q Q Q (by decide) Q Q Q Q (wI hr14) Q Q Q ?_;exact aH 5 Q (GE hm λg15 hm=>SX Q Q (aZ Q Q Q Q g15) (aI 2 Q (bU [0,1,2,3] hm Q Q)))
  refine aQ 2 Q (IE hm λv16 hm hz=>?_);rw [hz12 _ hz] at hm;exact WX (bP 1 Q (bM [0,1,2,3] hm Q Q))
 refine WN [1,2,5] Q Q (aL hm (λb17=>[]) (λb17=>([(2,.box 111 [.d (.sl 14 (p0.Ac.map Aj.enc)),.d (.sl 1 (p0.Ae.map (D.int .i64))),.d (.sl 1 (p0.As.map (D.int .i64))),.d (.int .i64 p0.Aa),.d (.int .i64 p0.Al),.d (.int .i64 r3.Ae),.d (.int .i64 r3.Ac),.d (.int .i64 r3.lies),.d (.int .i64 r3.aux),.d (.int .i64 r3.all),.d (.sl 1 (r3.states.map (D.int .i64))),.msl 3 6 0 b17.length]),(3,.flat 64 6 (b17.map At.enc))])) [] [1,2,5] Q (λz18 hm=>?_) (λb17 hm=>?_))
 ·refine bK 5 Q (aT hm (λ(x22,b23)=>([(7,.d (.int .i64 x22))])) (λ(x22,b23)=>([(2,.box 111 [.d (.sl 14 (p0.Ac.map Aj.enc)),.d (.sl 1 (p0.Ae.map (D.int .i64))),.d (.sl 1 (p0.As.map (D.int .i64))),.d (.int .i64 p0.Aa),.d (.int .i64 p0.Al),.d (.int .i64 r3.Ae),.d (.int .i64 r3.Ac),.d (.int .i64 r3.lies),.d (.int .i64 r3.aux),.d (.int .i64 r3.all),.d (.sl 1 (r3.states.map (D.int .i64))),.msl 3 6 0 b23.length]),(3,.flat 64 6 (b23.map At.enc))])) [7] [1,2,5] [0,1,2,3] Q k0 Q Q Q Q Q (λs z24 hm hz24=>?_));obtain⟨x22,b23⟩:=s;refine WN [1,2,5,7] Q Q (aP 5 Q (SX Q Q (aU TK Q Q Q) (aG 3 Q (bG hm Q (λh25 hm=>?_) (λh25 hm=>?_)))))
  ·refine aM 7 Q (BE hm λr26 hr26 hm=>?_);refine dE [2,3] (λj=>Nat.beq j 1) Q Q Q (by decide) Q Q Q Q (uD hr26) Q Q Q ?_;exact aH 5 Q (GE hm λg27 hm=>SX Q Q (aZ Q Q Q Q g27) (aI 2 Q (bU [0,1,2,3] hm Q Q)))
  refine aQ 2 Q (IE hm λv28 hm hz=>?_);rw [hz24 _ hz] at hm;exact WX (bP 1 Q (bM [0,1,2,3] hm Q Q))
 refine WN [1,2,5] Q Q (aL hm (λb29=>[]) (λb29=>([(2,.box 111 [.d (.sl 14 (p0.Ac.map Aj.enc)),.d (.sl 1 (p0.Ae.map (D.int .i64))),.d (.sl 1 (p0.As.map (D.int .i64))),.d (.int .i64 p0.Aa),.d (.int .i64 p0.Al),.d (.int .i64 r3.Ae),.d (.int .i64 r3.Ac),.d (.int .i64 r3.lies),.d (.int .i64 r3.aux),.d (.int .i64 r3.all),.d (.sl 1 (r3.states.map (D.int .i64))),.msl 3 6 0 b29.length]),(3,.flat 64 6 (b29.map At.enc))])) [] [1,2,5] Q (λz30 hm=>?_) (λb29 hm=>?_))
 ·refine bK 5 Q (aT hm (λ(x34,b35)=>([(8,.d (.int .i64 x34))])) (λ(x34,b35)=>([(2,.box 111 [.d (.sl 14 (p0.Ac.map Aj.enc)),.d (.sl 1 (p0.Ae.map (D.int .i64))),.d (.sl 1 (p0.As.map (D.int .i64))),.d (.int .i64 p0.Aa),.d (.int .i64 p0.Al),.d (.int .i64 r3.Ae),.d (.int .i64 r3.Ac),.d (.int .i64 r3.lies),.d (.int .i64 r3.aux),.d (.int .i64 r3.all),.d (.sl 1 (r3.states.map (D.int .i64))),.msl 3 6 0 b35.length]),(3,.flat 64 6 (b35.map At.enc))])) [8] [1,2,5] [0,1,2,3] Q k0 Q Q Q Q Q (λs z36 hm hz36=>?_));obtain⟨x34,b35⟩:=s;refine WN [1,2,5,8] Q Q (aP 5 Q (SX Q Q (aU TK Q Q Q) (aG 3 Q (bG hm Q (λh37 hm=>?_) (λh37 hm=>?_)))))
  ·refine aM 7 Q (BE hm λr38 hr38 hm=>?_);refine dE [2,3] (λj=>Nat.beq j 1) Q Q Q (by decide) Q Q Q Q (wJ hr38) Q Q Q ?_;exact aH 5 Q (GE hm λg39 hm=>SX Q Q (aZ Q Q Q Q g39) (aI 2 Q (bU [0,1,2,3] hm Q Q)))
  refine aQ 2 Q (IE hm λv40 hm hz=>?_);rw [hz36 _ hz] at hm;exact WX (bP 1 Q (bM [0,1,2,3] hm Q Q))
 refine WN [1,2,5] Q Q (aL hm (λb41=>[]) (λb41=>([(2,.box 111 [.d (.sl 14 (p0.Ac.map Aj.enc)),.d (.sl 1 (p0.Ae.map (D.int .i64))),.d (.sl 1 (p0.As.map (D.int .i64))),.d (.int .i64 p0.Aa),.d (.int .i64 p0.Al),.d (.int .i64 r3.Ae),.d (.int .i64 r3.Ac),.d (.int .i64 r3.lies),.d (.int .i64 r3.aux),.d (.int .i64 r3.all),.d (.sl 1 (r3.states.map (D.int .i64))),.msl 3 6 0 b41.length]),(3,.flat 64 6 (b41.map At.enc))])) [] [1,2,5] Q (λz42 hm=>?_) (λb41 hm=>?_))
 ·refine bK 5 Q (aT hm (λ(x46,b47)=>([(9,.d (.int .i64 x46))])) (λ(x46,b47)=>([(2,.box 111 [.d (.sl 14 (p0.Ac.map Aj.enc)),.d (.sl 1 (p0.Ae.map (D.int .i64))),.d (.sl 1 (p0.As.map (D.int .i64))),.d (.int .i64 p0.Aa),.d (.int .i64 p0.Al),.d (.int .i64 r3.Ae),.d (.int .i64 r3.Ac),.d (.int .i64 r3.lies),.d (.int .i64 r3.aux),.d (.int .i64 r3.all),.d (.sl 1 (r3.states.map (D.int .i64))),.msl 3 6 0 b47.length]),(3,.flat 64 6 (b47.map At.enc))])) [9] [1,2,5] [0,1,2,3] Q k0 Q Q Q Q Q (λs z48 hm hz48=>?_));obtain⟨x46,b47⟩:=s;refine WN [1,2,5,9] Q Q (aP 5 Q (SX Q Q (aU TK Q Q Q) (aG 3 Q (bG hm Q (λh49 hm=>?_) (λh49 hm=>?_)))))
  ·refine aM 8 Q (BE hm λr50 hr50 hm=>?_);refine SX Q Q (aK [2,3] ⟨Q,Q,λ_=>Q⟩ Q Q Q (by decide) Q (aF Q) Q Q (bT hr50)) ?_;refine aH 2 Q (BE hm λr51 hr51 hm=>?_);refine SX Q Q (aK [2,3] ⟨Q,Q,λ_=>Q⟩ Q Q Q (by decide) Q (aF Q) Q Q (cG hr51)) ?_;refine aH 2 Q (BE hm λr52 hr52 hm=>?_);refine SX Q Q (aK [2,3] ⟨Q,Q,λ_=>Q⟩ Q Q Q (by decide) Q (aF Q) Q Q (cG hr52)) ?_;refine SX Q Q (bJ (f:=Ad.Aq) (xs:=([r51,r52]:List Ad)) [.tmp 74,.tmp 77] TK Q Q aJ Q (bF Q (aE (Ad.Ai _) (aE (Ad.Ai _) aS))) Q (aO Ad.Ak) Q) (c_D hm (gE ·) Q Q Q Q λr53 hm=>BE hm λr54 hr54 hm=>?_);refine dE [2,3] (λj=>Nat.beq j 1) Q Q Q (by decide) Q Q Q Q (eI hr54) Q Q Q ?_;exact aG 3 Q (WN [1,2,5,9] Q Q (aM 2 Q (GE hm λg55 hm=>SX Q Q (aZ Q Q Q Q g55) (aI 2 Q (bU [0,1,2,3] hm Q Q)))))
  refine aQ 2 Q (IE hm λv56 hm hz=>?_);rw [hz48 _ hz] at hm;exact WX (bP 1 Q (bM [0,1,2,3] hm Q Q))
 refine WN [1,2,5] Q Q (aL hm (λb57=>[]) (λb57=>([(2,.box 111 [.d (.sl 14 (p0.Ac.map Aj.enc)),.d (.sl 1 (p0.Ae.map (D.int .i64))),.d (.sl 1 (p0.As.map (D.int .i64))),.d (.int .i64 p0.Aa),.d (.int .i64 p0.Al),.d (.int .i64 r3.Ae),.d (.int .i64 r3.Ac),.d (.int .i64 r3.lies),.d (.int .i64 r3.aux),.d (.int .i64 r3.all),.d (.sl 1 (r3.states.map (D.int .i64))),.msl 3 6 0 b57.length]),(3,.flat 64 6 (b57.map At.enc))])) [] [1,2,5] Q (λz58 hm=>?_) (λb57 hm=>?_))
 ·refine bK 5 Q (aT hm (λ(k62,b63)=>([(10,.d (.int .i64 k62))])) (λ(k62,b63)=>([(2,.box 111 [.d (.sl 14 (p0.Ac.map Aj.enc)),.d (.sl 1 (p0.Ae.map (D.int .i64))),.d (.sl 1 (p0.As.map (D.int .i64))),.d (.int .i64 p0.Aa),.d (.int .i64 p0.Al),.d (.int .i64 r3.Ae),.d (.int .i64 r3.Ac),.d (.int .i64 r3.lies),.d (.int .i64 r3.aux),.d (.int .i64 r3.all),.d (.sl 1 (r3.states.map (D.int .i64))),.msl 3 6 0 b63.length]),(3,.flat 64 6 (b63.map At.enc))])) [10] [1,2,5] [0,1,2,3] Q k0 Q Q Q Q Q (λs z64 hm hz64=>?_));obtain⟨k62,b63⟩:=s;refine WN [1,2,5,10] Q Q (aP 5 Q (SX Q Q (aU TK Q Q Q) (aG 3 Q (bG hm Q (λh65 hm=>?_) (λh65 hm=>?_)))))
  ·refine aM 7 Q (BE hm λr66 hr66 hm=>?_);refine dE [2,3] (λj=>Nat.beq j 1) Q Q Q (by decide) Q Q Q Q (zA hr66) Q Q Q ?_;exact aH 5 Q (GE hm λg67 hm=>SX Q Q (aZ Q Q Q Q g67) (aI 2 Q (bU [0,1,2,3] hm Q Q)))
  refine aQ 2 Q (IE hm λv68 hm hz=>?_);rw [hz64 _ hz] at hm;exact WX (bP 1 Q (bM [0,1,2,3] hm Q Q))
 refine WN [1,2,5] Q Q (aM 2 Q (BE hm λr69 hr69 hm=>?_));obtain⟨r70,r71⟩:=r69;refine SX Q Q (jL Q Q Q (qMO hr69)) (aH 14 Q (SX Q Q (kG Q qOD sR Q Q Q Q) (aG 4 Q (WN [2,3] Q Q (aQ 1 Q ?_)))));obtain⟨rfl,rfl⟩:=Prod.mk.inj (Option.some.inj hm);exact⟨_,.mk _ (.cons (.agg (TK.lay Q) Q Q Q Q) (.cons (.tmp 3) .nil)) Q,(.cons (jS (.cons (.d _) Q (.cons (.d _) Q (.cons (dA Q) Q .nil)))) (.refl _) (.cons (.d _) (.refl _) .nil))⟩
theorem vC {p0:(List Int)} {p1:Int} {r:Int} (hm:nG p0 p1=some r):RetN TP 108 [.sl 1 (p0.map (D.int .i64)),.int .i64 p1] (.int .i64 r):=by
 refine .unit (aN (bA Q) func108 Q ntmps108 Q Q (λwX gX=>?_)) Q;unfold nG at hm;refine WN [0,1] Q Q (bK 4 Q (cI hm (λ_=>[]) (λ_=>[]) [] [] Q (λz1 hm hz1=>?_) (λj hm=>?_)))
 ·refine aP 2 Q (SX Q Q (aU TK Q Q Q) (aG 4 Q (aT hm (λx3=>([(9,.d (.int .i64 x3))])) (λx3=>[]) [9] [1,7,8] [] Q k0 Q Q Q Q Q (λx3 z4 hm hz4=>WN [1,7,8,9] Q Q (bK 5 Q (bG hm Q (λh5 hm=>?_) (λh5 hm=>?_)))))))
  ·refine aM 6 Q (VE hm λe6 he6 hm=>SX Q Q (bR TK Q Q Q Q he6) (aG 11 Q (bG hm Q (λh7 hm=>?_) (λh7 hm=>?_))))
   ·refine aQ 8 Q (IE hm λv8 hm hz=>?_);rw [hz4 _ hz] at hm;refine WR (bP 1 Q (IE hm λv9 hm hz=>?_));rw [hz1 _ hz] at hm;exact WR (bN hm Q)
   exact aM 4 Q (GE hm λg10 hm=>SX Q Q (aZ Q Q Q Q g10) (aI 2 Q (bU [] hm Q Q)))
  refine aQ 2 Q (IE hm λv11 hm hz=>?_);rw [hz4 _ hz] at hm;exact WX (bP 1 Q (bU [] hm Q Q))
 exact WN [] Q Q (aQ 5 Q (bN hm Q))
theorem mU {p0:BA} {p1:(List Int)} {r:BA} (hm:kO p0 p1=some r):RetN TP 44 [.str p0,.sl 1 (p1.map (D.int .i64))] (.str r):=by
 refine .unit (aN (bA Q) func44 Q ntmps44 Q Q (λwX gX=>?_)) Q;unfold kO at hm;refine WN [0,1] Q Q (bK 4 Q (aL hm (λword1=>([(0,.d (.str word1))])) (λword1=>[]) [0] [] Q (λz2 hm=>?_) (λword1 hm=>?_)))
 ·refine aP 2 Q (SX Q Q (aU TK Q Q Q) (aG 4 Q (aT hm (λ(word5,x6)=>([(0,.d (.str word5)),(9,.d (.int .i64 x6))])) (λ(word5,x6)=>[]) [0,9] [7,8] [] Q k0 Q Q Q Q Q (λs z7 hm hz7=>?_))));obtain⟨word5,x6⟩:=s;refine WN [0,7,8,9] Q Q (bK 5 Q (bG hm Q (λh8 hm=>?_) (λh8 hm=>?_)))
  ·exact aM 5 Q (VE hm λe9 he9 hm=>SX Q Q (bR TK Q Q Q Q he9) (aH 7 Q (c_N hm (zS ·) Q Q Q Q λr10 hm=>GE hm λg11 hm=>SX Q Q (uH Q Q Q g11) (GE hm λg12 hm=>SX Q Q (uH Q Q Q g12) (aH 5 Q (GE hm λg13 hm=>SX Q Q (aZ Q Q Q Q g13) (aI 2 Q (bU [] hm Q Q))))))))
  refine aQ 2 Q (IE hm λv14 hm hz=>?_);rw [hz7 _ hz] at hm;exact WX (bP 1 Q (bM [] hm Q Q))
 exact WN [0] Q Q (aQ 6 Q (bN hm Q))
theorem wD {p0:Int} {r:Ad} (hm:uN p0=some r):RetD TP 59 [.int .i64 p0] (r.enc):=by
 refine .of (mv:=λ_=>false) (aN (bA Q) func59 Q ntmps59 Q Q (λwX gX=>?_));unfold uN at hm;refine WN [0] Q Q (aP 1 Q (cD 0 Q Q aJ Q (bY 0 [none,none,some 3] Q Q (aH 4 Q (SX Q Q (cJ Q nZ aJ Q Q Q Q) (qPE 4 [none,none,some 3] Q (aI 4 Q ?_)))))));obtain rfl:=OJ hm;exact EndsS.cellR _ TK Q Q Q Q Q (.d _)
theorem iN {p0:Am} {p1:Int} {p2:Int} {r:Ad} (hm:gU p0 p1 p2=some r):RetD TP 119 [p0.enc,.int .i64 p1,.int .i64 p2] (r.enc):=by
 refine .of (mv:=λ_=>false) (aN (bA Q) func119 Q ntmps119 Q Q (λwX gX=>?_));unfold gU at hm;refine WN [0,1,2] Q Q (aP 1 Q (cT 0 Q Q Q (cD 1 Q Q aJ Q (bY 1 [none,none,some 3] Q Q (aH 4 Q (c_D hm (lV ·) Q Q Q Q λr1 hm=>aH 2 Q (VE hm λe2 he2 hm=>SX Q Q (bR TK Q Q Q Q he2) (aH 2 Q (GE hm λg3 hm=>SX Q Q (aZ Q Q Q Q g3) (c_D hm (wD ·) Q Q Q Q λr4 hm=>?_))))))))));refine aI 4 Q ?_;obtain rfl:=OJ hm;exact EndsS.cellR _ TK Q Q Q Q Q (.d _)
theorem xN {p0:(List Ad)} {r:Ad} (hm:rF p0=some r):RetD TP 116 [.sl 3 (p0.map Ad.Aq)] (r.enc):=by
 refine .of (mv:=λ_=>false) (aN (bA Q) func116 Q ntmps116 Q Q (λwX gX=>?_));unfold rF at hm;refine WN [0] Q Q (aP 1 Q (cD 0 Q Q aJ Q (bY 0 [none,none,some 3] Q Q (aH 4 Q (SX Q Q (cJ Q nZ aJ Q Q Q Q) (aI 4 Q ?_))))));obtain rfl:=OJ hm;exact EndsS.cellR _ TK Q Q Q Q Q (.d _)
theorem pH {p0:Am} {p1:Int} {r:Ad} (hm:lG p0 p1=some r):RetD TP 113 [p0.enc,.int .i64 p1] (r.enc):=by
 refine .of (mv:=λ_=>false) (aN (bA Q) func113 Q ntmps113 Q Q (λwX gX=>?_));unfold lG at hm;refine WN [0,1] Q Q (aP 1 Q (cT 0 Q Q Q (cD 1 Q Q aJ Q (bY 1 [none,none,some 3] Q Q (aG 2 Q (bV follows ?_))))));iterate 2 (refine DA [0,1] TK Q ?_)
 refine cL [0,1] hm (iN ·) Q Q Q Q λr1 hm=>?_;iterate 2 (refine DA [0,1] TK Q ?_)
 refine cL [0,1] hm (iN ·) Q Q Q Q λr2 hm=>?_;iterate 2 (refine DA [0,1] TK Q ?_)
 refine cL [0,1] hm (iN ·) Q Q Q Q λr3 hm=>?_;iterate 2 (refine DA [0,1] TK Q ?_)
 refine cL [0,1] hm (iN ·) Q Q Q Q λr4 hm=>DX [0,1] Q Q (bJ (f:=Ad.Aq) (xs:=([r1,r2,r3,r4]:List Ad)) [.tmp 7,.tmp 10,.tmp 13,.tmp 16] TK Q Q aJ Q (bF Q (aE (Ad.Ai _) (aE (Ad.Ai _) (aE (Ad.Ai _) (aE (Ad.Ai _) aS))))) Q (aO Ad.Ak) Q) (cL [0,1] hm (xN ·) Q Q Q Q λr5 hm=>?_);refine DT ?_ (by kernel_rfl);refine aG 3 Q (WN [4] Q Q (aQ 1 Q ?_));obtain rfl:=OJ hm;exact EndsS.cellR _ TK Q Q Q Q Q (.d _)
theorem mF {p0:Ad} {r:Ad} (hm:kU p0=some r):RetD TP 109 [p0.enc] (r.enc):=by
 refine .of (mv:=λ_=>false) (aN (bA Q) func109 Q ntmps109 Q Q (λwX gX=>?_));unfold kU at hm;refine WN [0] Q Q (aP 1 Q (cT 0 Q Q Q (cD 1 Q Q aJ Q (bY 1 [none,none,some 3] Q Q (aH 4 Q (SX Q Q (bJ (f:=Ad.Aq) (xs:=([p0]:List Ad)) [.tmp 3] TK Q Q aJ Q (bF Q (aE (Ad.Ai _) aS)) Q (aO Ad.Ak) Q) (SX Q Q (cJ Q nZ aJ Q Q Q Q) (aI 4 Q ?_))))))));obtain rfl:=OJ hm;exact EndsS.cellR _ TK Q Q Q Q Q (.d _)
theorem nH {p0:(List Ad)} {r:Ad} (hm:nO p0=some r):RetD TP 110 [.sl 3 (p0.map Ad.Aq)] (r.enc):=by
 refine .of (mv:=λ_=>false) (aN (bA Q) func110 Q ntmps110 Q Q (λwX gX=>?_));unfold nO at hm;refine WN [0] Q Q (aP 1 Q (cD 0 Q Q aJ Q (bY 0 [none,none,some 3] Q Q (aH 4 Q (SX Q Q (cJ Q nZ aJ Q Q Q Q) (aI 4 Q ?_))))));obtain rfl:=OJ hm;exact EndsS.cellR _ TK Q Q Q Q Q (.d _)
theorem qW {p0:Am} {p1:Int} {p2:Int} {r:Ad} (hm:jU p0 p1 p2=some r):RetD TP 111 [p0.enc,.int .i64 p1,.int .i64 p2] (r.enc):=by
 refine .of (mv:=λ_=>false) (aN (bA Q) func111 Q ntmps111 Q Q (λwX gX=>?_));unfold jU at hm;refine WN [0,1,2] Q Q (aP 1 Q (cT 0 Q Q Q (cD 1 Q Q aJ Q (bY 1 [none,none,some 3] Q Q (aH 5 Q (GE hm λg1 hm=>SX Q Q (aZ Q Q Q Q g1) (aH 3 Q (VE hm λe2 he2 hm=>SX Q Q (bR TK Q Q Q Q he2) (aH 2 Q (SX Q Q (aU TK Q Q Q) (aG 3 Q (bG hm Q (λh3 hm=>?_) (λh3 hm=>?_)))))))))))))
 ·refine aM 3 Q (c_D hm (pH ·) Q Q Q Q λr4 hm=>aG 3 Q (WN [6] Q Q (aQ 2 Q ?_)));obtain rfl:=OJ hm;exact EndsS.cellR _ TK Q Q Q Q Q (.d _)
 refine cR 2 Q (bV follows ?_);iterate 2 (refine DA [0,1] TK Q ?_)
 refine cL [0,1] hm (pH ·) Q Q Q Q λr5 hm=>?_;iterate 3 (refine DA [0,1] TK Q ?_)
 refine GE hm λg6 hm=>DX [0,1] Q Q (aZ Q Q Q Q g6) (cL [0,1] hm (iN ·) Q Q Q Q λr7 hm=>cL [0,1] hm (mF ·) Q Q Q Q λr8 hm=>DX [0,1] Q Q (bJ (f:=Ad.Aq) (xs:=([r5,r8]:List Ad)) [.tmp 22,.tmp 28] TK Q Q aJ Q (bF Q (aE (Ad.Ai _) (aE (Ad.Ai _) aS))) Q (aO Ad.Ak) Q) (cL [0,1] hm (nH ·) Q Q Q Q λr9 hm=>?_));refine DT ?_ (by kernel_rfl);refine aG 3 Q (WN [6] Q Q (aQ 1 Q ?_));obtain rfl:=OJ hm;exact EndsS.cellR _ TK Q Q Q Q Q (.d _)
theorem qKD {p0:(List Ag)} {p1:Ag} {r:Bool} (hm:wG p0 p1=some r):RetN TP 184 [.sl 2 (p0.map Ag.enc),p1.enc] (.bool (r)):=by
 refine .unit (aN (bA Q) func184 Q ntmps184 Q Q (λwX gX=>?_)) Q;unfold wG at hm;refine WN [0,1] Q Q (aP 1 Q (cT 0 Q Q Q (aG 3 Q (cI hm (λ_=>[]) (λ_=>[]) [] [] Q (λz1 hm hz1=>?_) (λj hm=>?_)))))
 ·refine aP 2 Q (SX Q Q (aU TK Q Q Q) (aG 4 Q (aT hm (λx3=>([(9,.d (.int .i64 x3))])) (λx3=>[]) [9] [3,7,8] [0] Q k0 Q Q Q Q Q (λx3 z4 hm hz4=>WN [3,7,8,9] Q Q (bK 5 Q (bG hm Q (λh5 hm=>?_) (λh5 hm=>?_)))))))
  ·refine aM 5 Q (VE hm λe6 he6 hm=>SX Q Q (bR TK Q Q Q Q he6) (aH 1 Q (cD 1 Q Q fT Q (aH 6 Q (GE hm λg7 hm=>SX Q Q (qDS Q Q Q g7.1 g7.2) (aG 2 Q (bG hm Q (λh9 hm=>?_) (λh9 hm=>?_))))))))
   ·refine aQ 7 Q (IE hm λv10 hm hz=>?_);rw [hz4 _ hz] at hm;refine WR (bP 1 Q (IE hm λv11 hm hz=>?_));rw [hz1 _ hz] at hm;exact WR (bN hm Q)
   exact aM 4 Q (GE hm λg12 hm=>SX Q Q (aZ Q Q Q Q g12) (aI 2 Q (bU [0] hm Q Q)))
  refine aQ 2 Q (IE hm λv13 hm hz=>?_);rw [hz4 _ hz] at hm;exact WX (bP 1 Q (bU [0] hm Q Q))
 exact WN [] Q Q (aQ 5 Q (bN hm Q))
theorem qMN {p0:Am} {p1:Int} {p2:Ag} {r:Ad} (hm:oS p0 p1 p2=some r):RetD TP 117 [p0.enc,.int .i64 p1,p2.enc] (r.enc):=by
 refine .of (mv:=λ_=>false) (aN (bA Q) func117 Q ntmps117 Q Q (λwX gX=>?_));unfold oS at hm;refine WN [0,1,2] Q Q (aP 1 Q (cT 0 Q Q Q (cT 1 Q Q Q (cD 2 Q Q aJ Q (bY 2 [none,none,some 3] Q Q (aH 6 Q (VE hm λe1 he1 hm=>SX Q Q (bR TK Q Q Q Q he1) (aH 1 Q (cD 3 Q Q fL Q (bY 3 [none,none,none,some 3,some 2,some 1,none,none,some 3,some 2,some 1,some 2,some 1,some 2] Q Q (aG 3 Q (bV follows ?_))))))))))));iterate 7 (refine DA [0,1,2,3] TK Q ?_)
 refine fE [0,1,2,3] hm (lN ·) Q Q Q Q λr2 hm=>VE hm λe3 he3 hm=>DX [0,1,2,3] Q Q (bR TK Q Q Q Q he3) (DA [0,1,2,3] TK Q (fE [0,1,2,3] hm (vC ·) Q Q Q Q λr4 hm=>?_));refine DT ?_ (by kernel_rfl);refine aG 3 Q (WN [1,3,5,6,7,8] Q Q (cR 1 Q (aL hm (λx5=>([(38,.d (.bool (x5)))])) (λx5=>[]) [38] [1,3,6,8] Q (λz6 hm=>?_) (λx5 hm=>?_))))
 ·refine aP 4 Q (c_N hm (qKD ·) Q Q Q Q λr7 hm=>SB TK Q (λq8 hq8=>?_));cases q8
  ·replace hm:=JB hq8 hm;refine aH 3 Q (c_N hm (qKD ·) Q Q Q Q λr9 hm=>aH 1 Q (SB TK Q (λq10 hq10=>?_)));cases q10
   ·replace hm:=JB hq10 hm;exact aI 4 Q (bM [0,1,2,3] hm Q Q)
   replace hm:=JA hq10 hm;exact aI 4 Q (bM [0,1,2,3] hm Q Q)
  replace hm:=JA hq8 hm;exact aI 10 Q (bM [0,1,2,3] hm Q Q)
 refine WN [1,3,6,8,38] Q Q (cP hm Q (λh11 hm=>?_) (λh11 hm=>?_))
 ·refine aM 3 Q (c_D hm (pH ·) Q Q Q Q λr12 hm=>aI 5 Q ?_);obtain rfl:=OJ hm;exact EndsS.cellR _ TK Q Q Q Q Q (.d _)
 refine aM 6 Q (c_D hm (qW ·) Q Q Q Q λr13 hm=>aI 4 Q ?_);obtain rfl:=OJ hm;exact EndsS.cellR _ TK Q Q Q Q Q (.d _)
theorem qPH {p0:Am} {r:(List Af)} (hm:tD p0=some r):RetD TP 43 [p0.enc] (.sl 4 (r.map Af.enc)):=by
 refine .of (mv:=λ_=>false) (aN (bA Q) func43 Q ntmps43 Q Q (λwX gX=>?_));unfold tD at hm;refine WN [0] Q Q (aP 1 Q (cT 0 Q Q Q (aH 4 Q (fM (f:=Af.enc) 1 42 4 Q Q Q (aG 2 Q (aL hm (λb1=>([(3,.msl 1 4 0 b1.length)])) (λb1=>([(1,.flat 42 4 (b1.map Af.enc))])) [3] [] Q (λz2 hm=>?_) (λb1 hm=>?_)))))))
 ·refine aP 3 Q (SX Q Q (aU TK Q Q Q) (aG 4 Q (aT hm (λ(x6,b7)=>([(3,.msl 1 4 0 b7.length),(13,.d (.int .i64 x6))])) (λ(x6,b7)=>([(1,.flat 42 4 (b7.map Af.enc))])) [3,13] [1,11,12] [0,1] Q k0 Q Q Q Q Q (λs z8 hm hz8=>?_))));obtain⟨x6,b7⟩:=s;refine WN [1,3,11,12,13] Q Q (bK 5 Q (bG hm Q (λh9 hm=>?_) (λh9 hm=>?_)))
  ·refine cR 2 Q (aL hm (λb10=>([(3,.msl 1 4 0 b10.length)])) (λb10=>([(1,.flat 42 4 (b10.map Af.enc))])) [3] [1,11,12,13] Q (λz11 hm=>?_) (λb10 hm=>?_))
   ·refine aP 3 Q (VE hm λe12 he12 hm=>SX Q Q (bR TK Q Q Q Q he12) (aH 1 Q (cD 2 Q Q fL Q (bY 2 [none,none,none,some 3,some 2,some 1,none,none,some 3,some 2,some 1,some 2,some 1,some 2] Q Q (aH 6 Q (c_D hm (jI ·) Q Q Q Q λr13 hm=>SX Q Q (aU TK Q Q Q) (aG 4 Q (aT hm (λ(x17,b18)=>([(3,.msl 1 4 0 b18.length),(21,.d (.int .i64 x17))])) (λ(x17,b18)=>([(1,.flat 42 4 (b18.map Af.enc))])) [3,21] [1,4,11,12,13,19,20] [0,1] Q k0 Q Q Q Q Q (λs z19 hm hz19=>?_)))))))));obtain⟨x17,b18⟩:=s;refine WN [1,3,4,11,12,13,19,20,21] Q Q (bK 5 Q (bG hm Q (λh20 hm=>?_) (λh20 hm=>?_)))
    ·refine aM 5 Q (VE hm λe21 he21 hm=>SX Q Q (bR TK Q Q Q Q he21) (aH 1 Q (cD 2 Q Q fT Q (aH 7 Q (c_N hm (lN ·) Q Q Q Q λr22 hm=>aH 5 Q (c_D hm (lV ·) Q Q Q Q λr23 hm=>aH 2 Q (GE hm λg24 hm=>SX Q Q (aZ Q Q Q Q g24) (c_D hm (wD ·) Q Q Q Q λr25 hm=>cD 3 Q Q aJ Q ?_))))))));refine bY 3 [none,none,some 3] Q Q (aG 3 Q (aL hm (λ(c26,c27,c28)=>[]) (λ(c26,c27,c28)=>([(3,.box 40 [.d (.int .i64 c26),.d (.int .i64 c27),.d (.sl 3 (c28.map Ad.Aq))])])) [] [1,3,4,7,8,9,11,12,13,19,20,21] Q (λz29 hm=>?_) (λj hm=>?_)))
     ·refine bK 6 Q (WN [1,3,4,7,8,9,11,12,13,19,20,21,37] Q Q (bG hm Q (λh30 hm=>?_) (λh30 hm=>?_)))
      ·exact aM 2 Q (c_D hm (mF ·) Q Q Q Q λr31 hm=>aI 2 Q (bM [0,1,2,3] hm Q Q))
      exact aQ 1 Q (bM [0,1,2,3] hm Q Q)
     obtain⟨c26,c27,c28⟩:=j;refine WN [1,3,4,7,8,9,11,12,13,19,20,21] Q Q (cU follows ?_);iterate 3 (refine DA [0,1,2,3] TK Q ?_)
     refine DX [0,1,2,3] Q Q (cM [.tmp 41,.tmp 42] TK Q Q gR Q Q Q Q Q) (fE [0,1,2,3] hm (mU ·) Q Q Q Q λr32 hm=>?_);iterate 3 (refine DA [0,1,2,3] TK Q ?_)
     refine cL [0,1,2,3] hm (qMN ·) Q Q Q Q λr33 hm=>cL [0,1,2,3] hm (mF ·) Q Q Q Q λr34 hm=>DA [0,1,2,3] TK Q (DX [0,1,2,3] Q Q (bJ (f:=Ad.Aq) (xs:=([r34,(⟨c26,c27,c28⟩:Ad)]:List Ad)) [.tmp 49,.tmp 50] TK Q Q aJ Q (bF Q (aE (Ad.Ai _) (aE (Ad.Ai _) aS))) Q (aO Ad.Ak) Q) (cL [0,1,2,3] hm (xN ·) Q Q Q Q λr35 hm=>DX [0,1,2,3] Q Q (cJ Q qKP kV Q Q Q Q) (DX [0,1,2,3] Q Q (cM [.tmp 53] TK Q Q kV Q Q Q Q Q) ?_)));refine DT ?_ (by kernel_rfl);exact GE hm λg36 hm=>cF (f:=Af.enc) ([(⟨r32,r35⟩:Af)]:List Af) TK Q Q kV Q Q Q Q Q (λh=>absurd h (zQV _)) Q bZ g36 Q Q (aG 4 Q (WN [1,3,4,11,12,13,19,20,21] Q Q (aM 1 Q (GE hm λg37 hm=>SX Q Q (aZ Q Q Q Q g37) (aI 2 Q (bU [0,1] hm Q Q))))))
    refine aQ 2 Q (IE hm λv38 hm hz=>?_);rw [hz19 _ hz] at hm;exact WX (bP 2 Q (bM [0,1] hm Q Q))
   exact WN [1,3,11,12,13] Q Q (aM 1 Q (GE hm λg39 hm=>SX Q Q (aZ Q Q Q Q g39) (aI 2 Q (bU [0,1] hm Q Q))))
  refine aQ 2 Q (IE hm λv40 hm hz=>?_);rw [hz8 _ hz] at hm;exact WX (bP 1 Q (bM [0,1] hm Q Q))
 refine WN [3] Q Q (aQ 6 Q ?_);obtain rfl:=OJ hm;exact EndsS.one _ Q (dA Q) (.refl _)
theorem qKC {p0:Am} {p1:Int} {r:Ad} (hm:pG p0 p1=some r):RetD TP 45 [p0.enc,.int .i64 p1] (r.enc):=by
 refine .of (mv:=λ_=>false) (aN (bA Q) func45 Q ntmps45 Q Q (λwX gX=>?_));unfold pG at hm;refine WN [0,1] Q Q (aP 1 Q (cT 0 Q Q Q (cD 1 Q Q aJ Q (bY 1 [none,none,some 3] Q Q (aH 6 Q (VE hm λe1 he1 hm=>SX Q Q (bR TK Q Q Q Q he1) (aH 1 Q (cD 2 Q Q fL Q (bY 2 [none,none,none,some 3,some 2,some 1,none,none,some 3,some 2,some 1,some 2,some 1,some 2] Q Q (aH 4 Q (fM (f:=Ad.Aq) 3 40 3 Q Q Q (aG 2 Q (aL hm (λb2=>([(6,.msl 3 3 0 b2.length)])) (λb2=>([(3,.flat 40 3 (b2.map Ad.Aq))])) [6] [1,2,4,5] Q (λz3 hm=>?_) (λb2 hm=>?_))))))))))))))
 ·refine aP 3 Q (SX Q Q (aU TK Q Q Q) (aG 4 Q (aT hm (λ(x7,b8)=>([(6,.msl 3 3 0 b8.length),(21,.d (.int .i64 x7))])) (λ(x7,b8)=>([(3,.flat 40 3 (b8.map Ad.Aq))])) [6,21] [1,2,4,5,19,20] [0,1,2,3] Q k0 Q Q Q Q Q (λs z9 hm hz9=>?_))));obtain⟨x7,b8⟩:=s;refine WN [1,2,4,5,6,19,20,21] Q Q (bK 5 Q (bG hm Q (λh10 hm=>?_) (λh10 hm=>?_)))
  ·exact aM 5 Q (VE hm λe11 he11 hm=>SX Q Q (bR TK Q Q Q Q he11) (aH 7 Q (GE hm λg12 hm=>SX Q Q (aZ Q Q Q Q g12) (c_D hm (wD ·) Q Q Q Q λr13 hm=>SX Q Q (bJ (f:=Ad.Aq) (xs:=([r13]:List Ad)) [.tmp 28] TK Q Q aJ Q (bF Q (aE (Ad.Ai _) aS)) Q (aO Ad.Ak) Q) (GE hm λg14 hm=>cF (f:=Ad.Aq) ([r13]:List Ad) TK Q Q aJ Q Q Q Q Q (λh=>absurd h (zQV _)) Q bZ g14 Q Q (aH 5 Q (GE hm λg15 hm=>SX Q Q (aZ Q Q Q Q g15) (aI 2 Q (bU [0,1,2,3] hm Q Q)))))))))
  refine aQ 2 Q (IE hm λv16 hm hz=>?_);rw [hz9 _ hz] at hm;exact WX (bP 1 Q (bM [0,1,2,3] hm Q Q))
 refine WN [1,2,4,5,6] Q Q (aL hm (λb17=>([(6,.msl 3 3 0 b17.length)])) (λb17=>([(3,.flat 40 3 (b17.map Ad.Aq))])) [6] [1,2,4,5] Q (λz18 hm=>?_) (λb17 hm=>?_))
 ·refine aP 3 Q (SX Q Q (aU TK Q Q Q) (aG 4 Q (aT hm (λ(x22,b23)=>([(6,.msl 3 3 0 b23.length),(35,.d (.int .i64 x22))])) (λ(x22,b23)=>([(3,.flat 40 3 (b23.map Ad.Aq))])) [6,35] [1,2,4,5,33,34] [0,1,2,3] Q k0 Q Q Q Q Q (λs z24 hm hz24=>?_))));obtain⟨x22,b23⟩:=s;refine WN [1,2,4,5,6,33,34,35] Q Q (bK 5 Q (bG hm Q (λh25 hm=>?_) (λh25 hm=>?_)))
  ·exact aM 5 Q (VE hm λe26 he26 hm=>SX Q Q (bR TK Q Q Q Q he26) (aH 7 Q (GE hm λg27 hm=>SX Q Q (aZ Q Q Q Q g27) (c_D hm (wD ·) Q Q Q Q λr28 hm=>SX Q Q (bJ (f:=Ad.Aq) (xs:=([r28]:List Ad)) [.tmp 42] TK Q Q aJ Q (bF Q (aE (Ad.Ai _) aS)) Q (aO Ad.Ak) Q) (GE hm λg29 hm=>cF (f:=Ad.Aq) ([r28]:List Ad) TK Q Q aJ Q Q Q Q Q (λh=>absurd h (zQV _)) Q bZ g29 Q Q (aH 5 Q (GE hm λg30 hm=>SX Q Q (aZ Q Q Q Q g30) (aI 2 Q (bU [0,1,2,3] hm Q Q)))))))))
  refine aQ 2 Q (IE hm λv31 hm hz=>?_);rw [hz24 _ hz] at hm;exact WX (bP 1 Q (bM [0,1,2,3] hm Q Q))
 refine WN [1,2,4,5,6] Q Q (aL hm (λb32=>([(6,.msl 3 3 0 b32.length)])) (λb32=>([(3,.flat 40 3 (b32.map Ad.Aq))])) [6] [1,2,4] Q (λz33 hm=>?_) (λb32 hm=>?_))
 ·refine aP 2 Q (c_D hm (jI ·) Q Q Q Q λr34 hm=>SX Q Q (aU TK Q Q Q) (aG 4 Q (aT hm (λ(x38,b39)=>([(6,.msl 3 3 0 b39.length),(49,.d (.int .i64 x38))])) (λ(x38,b39)=>([(3,.flat 40 3 (b39.map Ad.Aq))])) [6,49] [1,2,4,47,48] [0,1,2,3] Q k0 Q Q Q Q Q (λs z40 hm hz40=>?_))));obtain⟨x38,b39⟩:=s;refine WN [1,2,4,6,47,48,49] Q Q (bK 5 Q (bG hm Q (λh41 hm=>?_) (λh41 hm=>?_)))
  ·refine aM 5 Q (VE hm λe42 he42 hm=>SX Q Q (bR TK Q Q Q Q he42) (aH 1 Q (cD 4 Q Q fT Q (aG 3 Q (WN [1,2,4,6,12,47,48,49] Q Q (cU follows ?_))))));iterate 2 (refine DA [0,1,2,3,4] TK Q ?_)
   refine cL [0,1,2,3,4] hm (lV ·) Q Q Q Q λr43 hm=>?_;iterate 4 (refine DA [0,1,2,3,4] TK Q ?_)
   refine fE [0,1,2,3,4] hm (lN ·) Q Q Q Q λr44 hm=>GE hm λg45 hm=>DX [0,1,2,3,4] Q Q (aZ Q Q Q Q g45) (GE hm λg46 hm=>DX [0,1,2,3,4] Q Q (aZ Q Q Q Q g46) ?_);iterate 2 (refine DA [0,1,2,3,4] TK Q ?_)
   refine GE hm λg47 hm=>DX [0,1,2,3,4] Q Q (aZ Q Q Q Q g47) (GE hm λg48 hm=>DX [0,1,2,3,4] Q Q (aZ Q Q Q Q g48) (cL [0,1,2,3,4] hm (wD ·) Q Q Q Q λr49 hm=>DX [0,1,2,3,4] Q Q (bJ (f:=Ad.Aq) (xs:=([r49]:List Ad)) [.tmp 67] TK Q Q aJ Q (bF Q (aE (Ad.Ai _) aS)) Q (aO Ad.Ak) Q) ?_));refine DT ?_ (by kernel_rfl);exact GE hm λg50 hm=>cF (f:=Ad.Aq) ([r49]:List Ad) TK Q Q aJ Q Q Q Q Q (λh=>absurd h (zQV _)) Q bZ g50 Q Q (aG 4 Q (WN [1,2,4,6,47,48,49] Q Q (aM 1 Q (GE hm λg51 hm=>SX Q Q (aZ Q Q Q Q g51) (aI 2 Q (bU [0,1,2,3] hm Q Q))))))
  refine aQ 2 Q (IE hm λv52 hm hz=>?_);rw [hz40 _ hz] at hm;exact WX (bP 1 Q (bM [0,1,2,3] hm Q Q))
 refine WN [1,2,4,6] Q Q ?_;refine kM 6 3 [1,2,4] Q Q Q Q Q (by simp) Q Q ?_;refine aM 3 Q (c_D hm (iN ·) Q Q Q Q λr53 hm=>c_D hm (mF ·) Q Q Q Q λr54 hm=>aH 1 Q (c_D hm (nH ·) Q Q Q Q λr55 hm=>SX Q Q (bJ (f:=Ad.Aq) (xs:=([r54,r55]:List Ad)) [.tmp 74,.tmp 76] TK Q Q aJ Q (bF Q (aE (Ad.Ai _) (aE (Ad.Ai _) aS))) Q (aO Ad.Ak) Q) (c_D hm (xN ·) Q Q Q Q λr56 hm=>aI 4 Q ?_)));obtain rfl:=OJ hm;exact EndsS.cellR _ TK Q Q Q Q Q (.d _)
theorem qSJ {p0:Am} {p1:Int} {r:Ad} (hm:wF p0 p1=some r):RetD TP 46 [p0.enc,.int .i64 p1] (r.enc):=by
 refine .of (mv:=λ_=>false) (aN (bA Q) func46 Q ntmps46 Q Q (λwX gX=>?_));unfold wF at hm;refine WN [0,1] Q Q (aP 1 Q (cT 0 Q Q Q (cD 1 Q Q aJ Q (bY 1 [none,none,some 3] Q Q (aH 3 Q (fM (f:=Ad.Aq) 2 40 3 Q Q Q (aG 2 Q (aL hm (λb1=>([(5,.msl 2 3 0 b1.length)])) (λb1=>([(2,.flat 40 3 (b1.map Ad.Aq))])) [5] [4] Q (λz2 hm=>?_) (λb1 hm=>?_)))))))))
 ·refine bK 5 Q (aT hm (λ(a6,b7)=>([(5,.msl 2 3 0 b7.length),(6,.d (.int .i64 a6))])) (λ(a6,b7)=>([(2,.flat 40 3 (b7.map Ad.Aq))])) [5,6] [1,2,4] [0,1,2] Q k0 Q Q Q Q Q (λs z8 hm hz8=>?_));obtain⟨a6,b7⟩:=s;refine WN [1,2,4,5,6] Q Q (bK 6 Q (bG hm Q (λh9 hm=>?_) (λh9 hm=>?_)))
  ·refine cR 2 Q (aL hm (λb10=>([(5,.msl 2 3 0 b10.length)])) (λb10=>([(2,.flat 40 3 (b10.map Ad.Aq))])) [5] [1,2,4,6] Q (λz11 hm=>?_) (λb10 hm=>?_))
   ·refine bK 6 Q (aT hm (λ(b15,b16)=>([(5,.msl 2 3 0 b16.length),(7,.d (.int .i64 b15))])) (λ(b15,b16)=>([(2,.flat 40 3 (b16.map Ad.Aq))])) [5,7] [1,2,4,6] [0,1,2] Q k0 Q Q Q Q Q (λs z17 hm hz17=>?_));obtain⟨b15,b16⟩:=s;refine WN [1,2,4,5,6,7] Q Q (bK 7 Q (bG hm Q (λh18 hm=>?_) (λh18 hm=>?_)))
    ·refine cR 4 Q (cU follows ?_);iterate 4 (refine DA [0,1,2] TK Q ?_)
     refine cL [0,1,2] hm (iN ·) Q Q Q Q λr19 hm=>?_;iterate 3 (refine DA [0,1,2] TK Q ?_)
     refine cL [0,1,2] hm (iN ·) Q Q Q Q λr20 hm=>DX [0,1,2] Q Q (bJ (f:=Ad.Aq) (xs:=([r19,r20]:List Ad)) [.tmp 21,.tmp 25] TK Q Q aJ Q (bF Q (aE (Ad.Ai _) (aE (Ad.Ai _) aS))) Q (aO Ad.Ak) Q) (cL [0,1,2] hm (nH ·) Q Q Q Q λr21 hm=>cL [0,1,2] hm (mF ·) Q Q Q Q λr22 hm=>DX [0,1,2] Q Q (bJ (f:=Ad.Aq) (xs:=([r22]:List Ad)) [.tmp 28] TK Q Q aJ Q (bF Q (aE (Ad.Ai _) aS)) Q (aO Ad.Ak) Q) ?_);refine DT ?_ (by kernel_rfl);exact GE hm λg23 hm=>cF (f:=Ad.Aq) ([r22]:List Ad) TK Q Q aJ Q Q Q Q Q (λh=>absurd h (zQV _)) Q bZ g23 Q Q (aG 4 Q (WN [1,2,4,5,6,7] Q Q (aM 2 Q (GE hm λg24 hm=>SX Q Q (aZ Q Q Q Q g24) (aI 2 Q (bU [0,1,2] hm Q Q))))))
    refine aQ 2 Q (IE hm λv25 hm hz=>?_);rw [hz17 _ hz] at hm;exact WX (bP 2 Q (bM [0,1,2] hm Q Q))
   exact WN [1,2,4,5,6] Q Q (aM 2 Q (GE hm λg26 hm=>SX Q Q (aZ Q Q Q Q g26) (aI 2 Q (bU [0,1,2] hm Q Q))))
  refine aQ 2 Q (IE hm λv27 hm hz=>?_);rw [hz8 _ hz] at hm;exact WX (bP 1 Q (bM [0,1,2] hm Q Q))
 refine WN [4,5] Q Q ?_;refine kM 5 2 [4] Q Q Q Q Q (by simp) Q Q ?_;refine aM 2 Q (c_D hm (nH ·) Q Q Q Q λr28 hm=>aI 4 Q ?_);obtain rfl:=OJ hm;exact EndsS.cellR _ TK Q Q Q Q Q (.d _)
theorem qSI {p0:Am} {p1:Int} {r:Ad} (hm:wE p0 p1=some r):RetD TP 47 [p0.enc,.int .i64 p1] (r.enc):=by
 refine .of (mv:=λ_=>false) (aN (bA Q) func47 Q ntmps47 Q Q (λwX gX=>?_));unfold wE at hm;refine WN [0,1] Q Q (aP 1 Q (cT 0 Q Q Q (cD 1 Q Q aJ Q (bY 1 [none,none,some 3] Q Q (aH 3 Q (fM (f:=Ad.Aq) 2 40 3 Q Q Q (aG 2 Q (aL hm (λb1=>([(5,.msl 2 3 0 b1.length)])) (λb1=>([(2,.flat 40 3 (b1.map Ad.Aq))])) [5] [4] Q (λz2 hm=>?_) (λb1 hm=>?_)))))))))
 ·refine bK 5 Q (aT hm (λ(k6,b7)=>([(5,.msl 2 3 0 b7.length),(6,.d (.int .i64 k6))])) (λ(k6,b7)=>([(2,.flat 40 3 (b7.map Ad.Aq))])) [5,6] [1,2,4] [0,1,2] Q k0 Q Q Q Q Q (λs z8 hm hz8=>?_));obtain⟨k6,b7⟩:=s;refine WN [1,2,4,5,6] Q Q (aP 3 Q (GE hm λg9 hm=>SX Q Q (aZ Q Q Q Q g9) (aH 3 Q (VE hm λe10 he10 hm=>SX Q Q (bR TK Q Q Q Q he10) (aH 2 Q (SX Q Q (aU TK Q Q Q) (aG 3 Q (bG hm Q (λh11 hm=>?_) (λh11 hm=>?_)))))))))
  ·refine cR 4 Q (cU follows ?_);iterate 4 (refine DA [0,1,2] TK Q ?_)
   refine GE hm λg12 hm=>DX [0,1,2] Q Q (aZ Q Q Q Q g12) (cL [0,1,2] hm (iN ·) Q Q Q Q λr13 hm=>cL [0,1,2] hm (mF ·) Q Q Q Q λr14 hm=>?_);iterate 3 (refine DA [0,1,2] TK Q ?_)
   refine GE hm λg15 hm=>DX [0,1,2] Q Q (aZ Q Q Q Q g15) (cL [0,1,2] hm (iN ·) Q Q Q Q λr16 hm=>DX [0,1,2] Q Q (bJ (f:=Ad.Aq) (xs:=([r14,r16]:List Ad)) [.tmp 25,.tmp 30] TK Q Q aJ Q (bF Q (aE (Ad.Ai _) (aE (Ad.Ai _) aS))) Q (aO Ad.Ak) Q) (cL [0,1,2] hm (xN ·) Q Q Q Q λr17 hm=>DX [0,1,2] Q Q (bJ (f:=Ad.Aq) (xs:=([r17]:List Ad)) [.tmp 32] TK Q Q aJ Q (bF Q (aE (Ad.Ai _) aS)) Q (aO Ad.Ak) Q) ?_));refine DT ?_ (by kernel_rfl);exact GE hm λg18 hm=>cF (f:=Ad.Aq) ([r17]:List Ad) TK Q Q aJ Q Q Q Q Q (λh=>absurd h (zQV _)) Q bZ g18 Q Q (aG 4 Q (WN [1,2,4,5,6] Q Q (aM 2 Q (GE hm λg19 hm=>SX Q Q (aZ Q Q Q Q g19) (aI 2 Q (bU [0,1,2] hm Q Q))))))
  refine aQ 2 Q (IE hm λv20 hm hz=>?_);rw [hz8 _ hz] at hm;exact WX (bP 1 Q (bM [0,1,2] hm Q Q))
 refine WN [4,5] Q Q ?_;refine kM 5 2 [4] Q Q Q Q Q (by simp) Q Q ?_;refine aM 2 Q (c_D hm (nH ·) Q Q Q Q λr21 hm=>aI 4 Q ?_);obtain rfl:=OJ hm;exact EndsS.cellR _ TK Q Q Q Q Q (.d _)
theorem qHW {p0:Am} {r:(List Af)} (hm:rE p0=some r):Ret TP 42 [] (λ_=>false) ([p0.enc].map .d) (.msl 0 4 0 r.length) [.flat 42 4 (r.map Af.enc)]:=by
 refine cA (bA Q) func42 Q ntmps42 Q Q (λwX gX=>?_);unfold rE at hm;refine WN [0] Q Q (aP 1 Q (cT 0 Q Q Q (fM (f:=Af.enc) 1 42 4 Q Q Q (aH 3 Q (fM (f:=Af.enc) 2 42 4 Q Q Q (aG 2 Q (aL hm (λb1=>([(3,.msl 2 4 0 b1.length)])) (λb1=>([(2,.flat 42 4 (b1.map Af.enc))])) [3] [1] Q (λz2 hm=>?_) (λb1 hm=>?_))))))))
 ·refine aP 3 Q (SX Q Q (aU TK Q Q Q) (aG 4 Q (aT hm (λ(x6,b7)=>([(3,.msl 2 4 0 b7.length),(20,.d (.int .i64 x6))])) (λ(x6,b7)=>([(2,.flat 42 4 (b7.map Af.enc))])) [3,20] [1,18,19] [0,1,2] Q k0 Q Q Q Q Q (λs z8 hm hz8=>?_))));obtain⟨x6,b7⟩:=s;refine WN [1,3,18,19,20] Q Q (bK 5 Q (bG hm Q (λh9 hm=>?_) (λh9 hm=>?_)))
  ·refine cR 2 Q (aL hm (λb10=>([(3,.msl 2 4 0 b10.length)])) (λb10=>([(2,.flat 42 4 (b10.map Af.enc))])) [3] [1,18,19,20] Q (λz11 hm=>?_) (λb10 hm=>?_))
   ·refine aP 3 Q (VE hm λe12 he12 hm=>SX Q Q (bR TK Q Q Q Q he12) (aH 1 Q (cD 3 Q Q fL Q (bY 3 [none,none,none,some 3,some 2,some 1,none,none,some 3,some 2,some 1,some 2,some 1,some 2] Q Q (aH 6 Q (GE hm λg13 hm=>SX Q Q (aZ Q Q Q Q g13) (aG 4 Q (aT hm (λ(b17,b18)=>([(3,.msl 2 4 0 b18.length),(6,.d (.int .i64 b17))])) (λ(b17,b18)=>([(2,.flat 42 4 (b18.map Af.enc))])) [3,6] [1,4,5,18,19,20] [0,1,2,3] Q k0 Q Q Q Q Q (λs z19 hm hz19=>?_)))))))));obtain⟨b17,b18⟩:=s;refine WN [1,3,4,5,6,18,19,20] Q Q (aP 5 Q (SX Q Q (aU TK Q Q Q) (aG 3 Q (bG hm Q (λh20 hm=>?_) (λh20 hm=>?_)))))
    ·refine cR 2 Q (aL hm (λb21=>([(3,.msl 2 4 0 b21.length)])) (λb21=>([(2,.flat 42 4 (b21.map Af.enc))])) [3] [1,4,5,6,18,19,20] Q (λz22 hm=>?_) (λb21 hm=>?_))
     ·refine aP 4 Q (SX Q Q (aU TK Q Q Q) (aG 4 Q (aT hm (λ(x26,b27)=>([(3,.msl 2 4 0 b27.length),(37,.d (.int .i64 x26))])) (λ(x26,b27)=>([(2,.flat 42 4 (b27.map Af.enc))])) [3,37] [1,4,5,6,18,19,20,35,36] [0,1,2,3] Q k0 Q Q Q Q Q (λs z28 hm hz28=>?_))));obtain⟨x26,b27⟩:=s;refine WN [1,3,4,5,6,18,19,20,35,36,37] Q Q (bK 5 Q (bG hm Q (λh29 hm=>?_) (λh29 hm=>?_)))
      ·refine aM 6 Q (VE hm λe30 he30 hm=>SX Q Q (bR TK Q Q Q Q he30) (aH 9 Q (VE hm λe31 he31 hm=>SX Q Q (bR TK Q Q Q Q he31) (aH 3 Q (c_N hm (vC ·) Q Q Q Q λr32 hm=>aG 8 Q (bG hm Q (λh33 hm=>?_) (λh33 hm=>?_)))))))
       ·refine cU follows ?_;iterate 4 (refine DA [0,1,2,3] TK Q ?_)
        refine DX [0,1,2,3] Q Q (cM [.tmp 53,.tmp 54,.tmp 55] TK Q Q gR Q Q Q Q Q) (fE [0,1,2,3] hm (mU ·) Q Q Q Q λr34 hm=>?_);iterate 3 (refine DA [0,1,2,3] TK Q ?_)
        refine cL [0,1,2,3] hm (qW ·) Q Q Q Q λr35 hm=>?_;iterate 3 (refine DA [0,1,2,3] TK Q ?_)
        refine cL [0,1,2,3] hm (qW ·) Q Q Q Q λr36 hm=>DX [0,1,2,3] Q Q (bJ (f:=Ad.Aq) (xs:=([r35,r36]:List Ad)) [.tmp 61,.tmp 65] TK Q Q aJ Q (bF Q (aE (Ad.Ai _) (aE (Ad.Ai _) aS))) Q (aO Ad.Ak) Q) (cL [0,1,2,3] hm (nH ·) Q Q Q Q λr37 hm=>cL [0,1,2,3] hm (mF ·) Q Q Q Q λr38 hm=>DX [0,1,2,3] Q Q (cJ Q qKP kV Q Q Q Q) (DX [0,1,2,3] Q Q (cM [.tmp 69] TK Q Q kV Q Q Q Q Q) ?_));refine DT ?_ (by kernel_rfl);exact GE hm λg39 hm=>cF (f:=Af.enc) ([(⟨r34,r38⟩:Af)]:List Af) TK Q Q kV Q Q Q Q Q (λh=>absurd h (zQV _)) Q bZ g39 Q Q (aG 4 Q (WN [1,3,4,5,6,18,19,20,35,36,37] Q Q (aM 1 Q (GE hm λg40 hm=>SX Q Q (aZ Q Q Q Q g40) (aI 2 Q (bU [0,1,2,3] hm Q Q))))))
       exact cR 3 Q (WN [1,3,4,5,6,18,19,20,35,36,37] Q Q (aM 1 Q (GE hm λg41 hm=>SX Q Q (aZ Q Q Q Q g41) (aI 2 Q (bU [0,1,2,3] hm Q Q)))))
      refine aQ 2 Q (IE hm λv42 hm hz=>?_);rw [hz28 _ hz] at hm;exact WX (bP 2 Q (bM [0,1,2,3] hm Q Q))
     exact WN [1,3,4,5,6,18,19,20] Q Q (aM 2 Q (GE hm λg43 hm=>SX Q Q (aZ Q Q Q Q g43) (aI 2 Q (bU [0,1,2,3] hm Q Q))))
    refine aQ 2 Q (IE hm λv44 hm hz=>?_);rw [hz19 _ hz] at hm;exact WX (bP 2 Q (bM [0,1,2] hm Q Q))
   exact WN [1,3,18,19,20] Q Q (aM 1 Q (GE hm λg45 hm=>SX Q Q (aZ Q Q Q Q g45) (aI 2 Q (bU [0,1,2] hm Q Q))))
  refine aQ 2 Q (IE hm λv46 hm hz=>?_);rw [hz8 _ hz] at hm;exact WX (bP 1 Q (bM [0,1,2] hm Q Q))
 refine WN [1,3] Q Q (aL hm (λb47=>([(3,.msl 2 4 0 b47.length)])) (λb47=>([(2,.flat 42 4 (b47.map Af.enc))])) [3] [] Q (λz48 hm=>?_) (λb47 hm=>?_))
 ·refine aP 3 Q (SX Q Q (aU TK Q Q Q) (aG 4 Q (aT hm (λ(x52,b53)=>([(3,.msl 2 4 0 b53.length),(77,.d (.int .i64 x52))])) (λ(x52,b53)=>([(2,.flat 42 4 (b53.map Af.enc))])) [3,77] [1,75,76] [0,1,2] Q k0 Q Q Q Q Q (λs z54 hm hz54=>?_))));obtain⟨x52,b53⟩:=s;refine WN [1,3,75,76,77] Q Q (bK 5 Q (bG hm Q (λh55 hm=>?_) (λh55 hm=>?_)))
  ·refine cR 2 Q (aL hm (λb56=>([(3,.msl 2 4 0 b56.length)])) (λb56=>([(2,.flat 42 4 (b56.map Af.enc))])) [3] [1,75,76,77] Q (λz57 hm=>?_) (λb56 hm=>?_))
   ·refine aP 3 Q (VE hm λe58 he58 hm=>SX Q Q (bR TK Q Q Q Q he58) (aH 1 Q (cD 3 Q Q fL Q (bY 3 [none,none,none,some 3,some 2,some 1,none,none,some 3,some 2,some 1,some 2,some 1,some 2] Q Q (aH 7 Q (SX Q Q (aU TK Q Q Q) (aG 4 Q (aT hm (λ(x62,b63)=>([(3,.msl 2 4 0 b63.length),(85,.d (.int .i64 x62))])) (λ(x62,b63)=>([(2,.flat 42 4 (b63.map Af.enc))])) [3,85] [1,10,11,75,76,77,83,84] [0,1,2,3] Q k0 Q Q Q Q Q (λs z64 hm hz64=>?_)))))))));obtain⟨x62,b63⟩:=s;refine WN [1,3,10,11,75,76,77,83,84,85] Q Q (bK 5 Q (bG hm Q (λh65 hm=>?_) (λh65 hm=>?_)))
    ·refine cR 2 Q (aL hm (λb66=>([(3,.msl 2 4 0 b66.length)])) (λb66=>([(2,.flat 42 4 (b66.map Af.enc))])) [3] [1,10,11,75,76,77,83,84,85] Q (λz67 hm=>?_) (λb66 hm=>?_))
     ·refine aP 3 Q (VE hm λe68 he68 hm=>SX Q Q (bR TK Q Q Q Q he68) (aH 1 Q (cD 4 Q Q fL Q (bY 4 [none,none,none,some 3,some 2,some 1,none,none,some 3,some 2,some 1,some 2,some 1,some 2] Q Q (aG 4 Q (WN [1,3,10,11,12,13,75,76,77,83,84,85] Q Q (aM 3 Q (SX Q Q (aU TK Q Q Q) (aG 4 Q (aT hm (λ(x72,b73)=>([(3,.msl 2 4 0 b73.length),(93,.d (.int .i64 x72))])) (λ(x72,b73)=>([(2,.flat 42 4 (b73.map Af.enc))])) [3,93] [1,10,11,12,13,75,76,77,83,84,85,91,92] [0,1,2,3,4] Q k0 Q Q Q Q Q (λs z74 hm hz74=>?_)))))))))));obtain⟨x72,b73⟩:=s;refine WN [1,3,10,11,12,13,75,76,77,83,84,85,91,92,93] Q Q (bK 5 Q (bG hm Q (λh75 hm=>?_) (λh75 hm=>?_)))
      ·refine aM 5 Q (VE hm λe76 he76 hm=>SX Q Q (bR TK Q Q Q Q he76) (aH 8 Q (c_N hm (vC ·) Q Q Q Q λr77 hm=>aG 3 Q (aL hm (λx78=>([(113,.d (.bool (x78)))])) (λx78=>[]) [113] [1,3,10,11,12,13,15,16,75,76,77,83,84,85,91,92,93] Q (λz79 hm=>?_) (λx78 hm=>?_)))))
       ·refine aP 4 Q (SB TK Q (λq80 hq80=>?_));cases q80
        ·replace hm:=qAF hq80 hm;exact aI 10 Q (bM [0,1,2,3,4] hm Q Q)
        replace hm:=qAE hq80 hm;refine aH 2 Q (c_N hm (rR ·) Q Q Q Q λr81 hm=>aH 2 Q (SB TK Q (λq82 hq82=>?_)));cases q82
        ·replace hm:=JB hq82 hm;exact aI 4 Q (bM [0,1,2,3,4] hm Q Q)
        replace hm:=JA hq82 hm;exact aI 4 Q (bM [0,1,2,3,4] hm Q Q)
       refine WN [1,3,10,11,12,13,15,16,75,76,77,83,84,85,91,92,93,113] Q Q (cP hm Q (λh83 hm=>?_) (λh83 hm=>?_))
       ·refine cU follows ?_;iterate 4 (refine DA [0,1,2,3,4] TK Q ?_)
        refine DX [0,1,2,3,4] Q Q (cM [.tmp 115,.tmp 116,.tmp 117] TK Q Q gR Q Q Q Q Q) (fE [0,1,2,3,4] hm (mU ·) Q Q Q Q λr84 hm=>?_);iterate 2 (refine DA [0,1,2,3,4] TK Q ?_)
        refine cL [0,1,2,3,4] hm (pH ·) Q Q Q Q λr85 hm=>?_;iterate 3 (refine DA [0,1,2,3,4] TK Q ?_)
        refine cL [0,1,2,3,4] hm (qW ·) Q Q Q Q λr86 hm=>DX [0,1,2,3,4] Q Q (bJ (f:=Ad.Aq) (xs:=([r85,r86]:List Ad)) [.tmp 122,.tmp 126] TK Q Q aJ Q (bF Q (aE (Ad.Ai _) (aE (Ad.Ai _) aS))) Q (aO Ad.Ak) Q) (cL [0,1,2,3,4] hm (nH ·) Q Q Q Q λr87 hm=>cL [0,1,2,3,4] hm (mF ·) Q Q Q Q λr88 hm=>DX [0,1,2,3,4] Q Q (cJ Q qKP kV Q Q Q Q) (DX [0,1,2,3,4] Q Q (cM [.tmp 130] TK Q Q kV Q Q Q Q Q) ?_));refine DT ?_ (by kernel_rfl);exact GE hm λg89 hm=>cF (f:=Af.enc) ([(⟨r84,r88⟩:Af)]:List Af) TK Q Q kV Q Q Q Q Q (λh=>absurd h (zQV _)) Q bZ g89 Q Q (aG 4 Q (WN [1,3,10,11,12,13,75,76,77,83,84,85,91,92,93] Q Q (aM 1 Q (GE hm λg90 hm=>SX Q Q (aZ Q Q Q Q g90) (aI 2 Q (bU [0,1,2,3,4] hm Q Q))))))
       exact aM 4 Q (GE hm λg91 hm=>SX Q Q (aZ Q Q Q Q g91) (aI 2 Q (bU [0,1,2,3,4] hm Q Q)))
      refine aQ 2 Q (IE hm λv92 hm hz=>?_);rw [hz74 _ hz] at hm;exact WX (bP 2 Q (bM [0,1,2,3] hm Q Q))
     exact WN [1,3,10,11,75,76,77,83,84,85] Q Q (aM 1 Q (GE hm λg93 hm=>SX Q Q (aZ Q Q Q Q g93) (aI 2 Q (bU [0,1,2,3] hm Q Q))))
    refine aQ 2 Q (IE hm λv94 hm hz=>?_);rw [hz64 _ hz] at hm;exact WX (bP 2 Q (bM [0,1,2] hm Q Q))
   exact WN [1,3,75,76,77] Q Q (aM 1 Q (GE hm λg95 hm=>SX Q Q (aZ Q Q Q Q g95) (aI 2 Q (bU [0,1,2] hm Q Q))))
  refine aQ 2 Q (IE hm λv96 hm hz=>?_);rw [hz54 _ hz] at hm;exact WX (bP 1 Q (bM [0,1,2] hm Q Q))
 refine WN [3] Q Q (aQ 6 Q ?_);obtain rfl:=OJ hm;exact⟨_,[2],res Q,by decide,k0,Q,Q⟩
theorem qSK {p0:Am} {r0:(List Af)} {r1:Int} (hm:wH p0=some (r0,r1)):RetT TP 12 [p0.enc] [.sl 4 (r0.map Af.enc),.int .i64 r1]:=by
 refine .of (mv:=λ_=>false) (jY (bA Q) func12 Q ntmps12 Q Q (λwX gX=>?_));unfold wH at hm;refine WN [0] Q Q (aP 1 Q (cT 0 Q Q Q (aH 7 Q (BE hm λr1 hr1 hm=>?_))));obtain⟨r2,r3⟩:=r1;refine SX Q Q (jL Q Q Q (qHX hr1)) (aH 3 Q (cD 1 Q Q sR Q (bY 1 [some 1,none,some 6] Q Q (aG 9 Q (qD hm Q (λh4 hm=>?_) (λh4 hm=>?_))))))
 ·refine cR 6 Q (zGH 2 [some 4] Q (aQ 2 Q ?_));obtain⟨rfl,rfl⟩:=Prod.mk.inj (Option.some.inj hm);exact EndsT.two Q (.d _) (.refl _) (.d _) (.refl _)
 refine cR 2 Q (jQ (bV follows (DA [0] TK Q (BE hm λr5 hr5 hm=>?_))));refine qAJ [2] [(2,.flat 42 4 (r5.map Af.enc))] (.msl 2 4 0 r5.length) Q (nC Q) Q (qYZ (Bs:=[.flat 42 4 (r5.map Af.enc)]) [2] (by intro i h;simp only [zQB,List.not_mem_nil,or_false] at h;rcases h with rfl<;>rfl) (by decide) Q Q Q Q (qHW hr5) Q (by intro B h;simp only [zQB,List.not_mem_nil,or_false] at h;rcases h with rfl<;>rfl)) ?_;refine DA [0] TK Q (cL [] hm (qPH ·) Q Q Q Q λr6 hm=>?_);refine DT ?_ (by kernel_rfl);refine GE hm λg7 hm=>cF (f:=Af.enc) r6 TK Q Q kV Q Q Q Q Q (λh=>absurd h (zQV _)) Q bZ g7 Q Q (aG 3 Q (WN [1,6] Q Q (aL hm (λb8=>([(6,.msl 2 4 0 b8.length)])) (λb8=>([(2,.flat 42 4 (b8.map Af.enc))])) [6] [1] Q (λz9 hm=>?_) (λb8 hm=>?_))))
 ·refine aP 3 Q (SX Q Q (aU TK Q Q Q) (aG 4 Q (aT hm (λ(x13,b14)=>([(6,.msl 2 4 0 b14.length),(26,.d (.int .i64 x13))])) (λ(x13,b14)=>([(2,.flat 42 4 (b14.map Af.enc))])) [6,26] [1,25] [0,1,2] Q k0 Q Q Q Q Q (λs z15 hm hz15=>?_))));obtain⟨x13,b14⟩:=s;refine WN [1,6,25,26] Q Q (bK 5 Q (bG hm Q (λh16 hm=>?_) (λh16 hm=>?_)))
  ·refine cR 9 Q (cU follows ?_);iterate 2 (refine DA [0,1,2] TK Q ?_)
   refine DX [0,1,2] Q Q (cM [.tmp 30] TK Q Q gR Q Q Q Q Q) (fE [0,1,2] hm (mU ·) Q Q Q Q λr17 hm=>?_);iterate 2 (refine DA [0,1,2] TK Q ?_)
   refine cL [0,1,2] hm (qKC ·) Q Q Q Q λr18 hm=>DX [0,1,2] Q Q (cJ Q qKP kV Q Q Q Q) (DX [0,1,2] Q Q (cM [.tmp 36] TK Q Q kV Q Q Q Q Q) ?_);refine DT ?_ (by kernel_rfl);exact GE hm λg19 hm=>cF (f:=Af.enc) ([(⟨r17,r18⟩:Af)]:List Af) TK Q Q kV Q Q Q Q Q (λh=>absurd h (zQV _)) Q bZ g19 Q Q (aH 5 Q (GE hm λg20 hm=>SX Q Q (aZ Q Q Q Q g20) (aI 2 Q (bU [0,1,2] hm Q Q))))
  refine aQ 2 Q (IE hm λv21 hm hz=>?_);rw [hz15 _ hz] at hm;exact WX (bP 1 Q (bM [0,1,2] hm Q Q))
 refine WN [1,6] Q Q (aL hm (λb22=>([(6,.msl 2 4 0 b22.length)])) (λb22=>([(2,.flat 42 4 (b22.map Af.enc))])) [6] [1] Q (λz23 hm=>?_) (λb22 hm=>?_))
 ·refine aP 3 Q (SX Q Q (aU TK Q Q Q) (aG 4 Q (aT hm (λ(x27,b28)=>([(6,.msl 2 4 0 b28.length),(43,.d (.int .i64 x27))])) (λ(x27,b28)=>([(2,.flat 42 4 (b28.map Af.enc))])) [6,43] [1,42] [0,1,2] Q k0 Q Q Q Q Q (λs z29 hm hz29=>?_))));obtain⟨x27,b28⟩:=s;refine WN [1,6,42,43] Q Q (bK 5 Q (bG hm Q (λh30 hm=>?_) (λh30 hm=>?_)))
  ·refine cR 9 Q (cU follows ?_);iterate 2 (refine DA [0,1,2] TK Q ?_)
   refine DX [0,1,2] Q Q (cM [.tmp 47] TK Q Q gR Q Q Q Q Q) (fE [0,1,2] hm (mU ·) Q Q Q Q λr31 hm=>?_);iterate 2 (refine DA [0,1,2] TK Q ?_)
   refine cL [0,1,2] hm (qSJ ·) Q Q Q Q λr32 hm=>DX [0,1,2] Q Q (cJ Q qKP kV Q Q Q Q) (DX [0,1,2] Q Q (cM [.tmp 53] TK Q Q kV Q Q Q Q Q) ?_);refine DT ?_ (by kernel_rfl);exact GE hm λg33 hm=>cF (f:=Af.enc) ([(⟨r31,r32⟩:Af)]:List Af) TK Q Q kV Q Q Q Q Q (λh=>absurd h (zQV _)) Q bZ g33 Q Q (aH 5 Q (GE hm λg34 hm=>SX Q Q (aZ Q Q Q Q g34) (aI 2 Q (bU [0,1,2] hm Q Q))))
  refine aQ 2 Q (IE hm λv35 hm hz=>?_);rw [hz29 _ hz] at hm;exact WX (bP 1 Q (bM [0,1,2] hm Q Q))
 refine WN [1,6] Q Q (aL hm (λb36=>([(6,.msl 2 4 0 b36.length)])) (λb36=>([(2,.flat 42 4 (b36.map Af.enc))])) [6] [] Q (λz37 hm=>?_) (λb36 hm=>?_))
 ·refine aP 3 Q (SX Q Q (aU TK Q Q Q) (aG 4 Q (aT hm (λ(x41,b42)=>([(6,.msl 2 4 0 b42.length),(60,.d (.int .i64 x41))])) (λ(x41,b42)=>([(2,.flat 42 4 (b42.map Af.enc))])) [6,60] [1,59] [0,1,2] Q k0 Q Q Q Q Q (λs z43 hm hz43=>?_))));obtain⟨x41,b42⟩:=s;refine WN [1,6,59,60] Q Q (bK 5 Q (bG hm Q (λh44 hm=>?_) (λh44 hm=>?_)))
  ·refine cR 9 Q (cU follows ?_);iterate 2 (refine DA [0,1,2] TK Q ?_)
   refine DX [0,1,2] Q Q (cM [.tmp 64] TK Q Q gR Q Q Q Q Q) (fE [0,1,2] hm (mU ·) Q Q Q Q λr45 hm=>?_);iterate 2 (refine DA [0,1,2] TK Q ?_)
   refine cL [0,1,2] hm (qSI ·) Q Q Q Q λr46 hm=>DX [0,1,2] Q Q (cJ Q qKP kV Q Q Q Q) (DX [0,1,2] Q Q (cM [.tmp 70] TK Q Q kV Q Q Q Q Q) ?_);refine DT ?_ (by kernel_rfl);exact GE hm λg47 hm=>cF (f:=Af.enc) ([(⟨r45,r46⟩:Af)]:List Af) TK Q Q kV Q Q Q Q Q (λh=>absurd h (zQV _)) Q bZ g47 Q Q (aH 5 Q (GE hm λg48 hm=>SX Q Q (aZ Q Q Q Q g48) (aI 2 Q (bU [0,1,2] hm Q Q))))
  refine aQ 2 Q (IE hm λv49 hm hz=>?_);rw [hz43 _ hz] at hm;exact WX (bP 1 Q (bM [0,1,2] hm Q Q))
 refine WN [6] Q Q (aQ 7 Q ?_);obtain⟨rfl,rfl⟩:=Prod.mk.inj (Option.some.inj hm);exact EndsT.two Q (dA Q) (.refl _) (.d _) (.refl _)
theorem qQO {p0:(List Int)} {p1:Int} {r:(List Bool)} (hm:oM p0 p1=some r):RetD TP 14 [.sl 1 (p0.map (D.int .u64)),.int .i64 p1] (.sl 1 (r.map D.bool)):=by
 refine .of (mv:=λ_=>false) (aN (bA Q) func14 Q ntmps14 Q Q (λwX gX=>?_));unfold oM at hm;refine WN [0,1] Q Q (aP 5 Q (fM (f:=D.bool) 0 4 1 Q Q Q (aG 2 Q (aL hm (λb1=>([(5,.msl 0 1 0 b1.length)])) (λb1=>([(0,.flat 4 1 (b1.map D.bool))])) [5] [] Q (λz2 hm=>?_) (λb1 hm=>?_)))))
 ·refine bK 5 Q (aT hm (λ(i6,b7)=>([(5,.msl 0 1 0 b7.length),(6,.d (.int .i64 i6))])) (λ(i6,b7)=>([(0,.flat 4 1 (b7.map D.bool))])) [5,6] [0,1] [0] Q k0 Q Q Q Q Q (λs z8 hm hz8=>?_));obtain⟨i6,b7⟩:=s;refine WN [0,1,5,6] Q Q (bK 7 Q (bG hm Q (λh9 hm=>?_) (λh9 hm=>?_)))
  ·refine aM 7 Q (SX Q Q (aU TK Q Q Q) (aH 1 Q (SB TK Q (λq10 hq10=>?_))));cases q10
   ·replace hm:=JF hq10 hm;exact aH 14 Q (SX Q Q (cM [.tmp 30] TK Q Q qJG Q Q Q Q Q) (GE hm λg11 hm=>cF (f:=D.bool) ([false]:List Bool) TK Q Q qJG Q Q Q Q Q (λh=>absurd h (zQV _)) Q bZ g11 Q Q (aG 4 Q (WN [0,1,5,6] Q Q (aM 2 Q (GE hm λg12 hm=>SX Q Q (aZ Q Q Q Q g12) (aI 2 Q (bU [0] hm Q Q))))))))
   replace hm:=JT hq10 hm;refine aH 2 Q (GE hm λg13 hm=>SX Q Q (qNS Q Q Q (qYT g13)) (aH 1 Q (SX Q Q (aU TK Q Q Q) (GE hm λg14 hm=>SX Q Q (qNS Q Q Q (qRI g14)) (VE hm λe15 he15 hm=>SX Q Q (bR TK Q Q Q Q he15) (aH 2 Q (GE hm λg16 hm=>SX Q Q (qNS Q Q Q (qRI g16)) (GE hm λg17 hm=>SX Q Q (x_shK Q Q Q Q g17) ?_))))))));exact SX Q Q (qNS Q Q Q Q) (aH 2 Q (SX Q Q (cM [.tmp 30] TK Q Q qJG Q Q Q Q Q) (GE hm λg18 hm=>cF (f:=D.bool) ([decide ((IntKind.u64.wrap (BitVec.ofInt IntKind.u64.bits (e15.fdiv (2 ^ (min (i6.tmod (64:Int)).toNat IntKind.u64.bits))) &&& BitVec.ofInt IntKind.u64.bits (1:Int)).toNat)=(1:Int))]:List Bool) TK Q Q qJG Q Q Q Q Q (λh=>absurd h (zQV _)) Q bZ g18 Q Q (aG 4 Q (WN [0,1,5,6] Q Q (aM 2 Q (GE hm λg19 hm=>SX Q Q (aZ Q Q Q Q g19) (aI 2 Q (bU [0] hm Q Q)))))))))
  refine aQ 2 Q (IE hm λv20 hm hz=>?_);rw [hz8 _ hz] at hm;exact WX (bP 1 Q (bM [0] hm Q Q))
 refine WN [5] Q Q (aQ 6 Q ?_);obtain rfl:=OJ hm;exact EndsS.one _ Q (dA Q) (.refl _)
theorem qMR:∀ (fu:Nat) {p0:Ad} {r:Int} (hm:mI fu p0=some r),RetN TP 17 [p0.enc] (.int .i64 r):=by
 intro fu
 induction fu with
 | zero=>
  intro p0 r hm;unfold mI at hm;cases hm
 | succ fu ih=>
  intro p0 r hm;refine .unit (aN (bA Q) func17 Q ntmps17 Q Q (λwX gX=>?_)) Q;unfold mI at hm;refine WN [0] Q Q (aP 1 Q (cT 0 Q Q Q (aG 7 Q (aL hm (λn1=>([(3,.d (.int .i64 n1))])) (λn1=>[]) [3] [] Q (λz2 hm=>?_) (λn1 hm=>?_)))))
  ·refine bK 5 Q (aT hm (λ(n5,i6)=>([(3,.d (.int .i64 n5)),(4,.d (.int .i64 i6))])) (λ(n5,i6)=>[]) [3,4] [1] [0] Q k0 Q Q Q Q Q (λs z7 hm hz7=>?_));obtain⟨n5,i6⟩:=s;refine WN [1,3,4] Q Q (aP 5 Q (SX Q Q (aU TK Q Q Q) (aG 3 Q (bG hm Q (λh8 hm=>?_) (λh8 hm=>?_)))))
   ·exact aM 9 Q (VE hm λe9 he9 hm=>SX Q Q (qHH TK Q Q Q Q he9 (Ad.Ai _)) (aH 1 Q (c_N hm (ih ·) Q Q Q Q λr10 hm=>GE hm λg11 hm=>SX Q Q (aZ Q Q Q Q g11) (aH 6 Q (GE hm λg12 hm=>SX Q Q (aZ Q Q Q Q g12) (aI 2 Q (bU [0] hm Q Q)))))))
   refine aQ 2 Q (IE hm λv13 hm hz=>?_);rw [hz7 _ hz] at hm;exact WX (bP 1 Q (bM [0] hm Q Q))
  exact WN [3] Q Q (aQ 6 Q (bN hm Q))
theorem qPJ {p0:Ad} {r:Int} (hm:xP p0=some r):RetN TP 17 [p0.enc] (.int .i64 r):=qMR eR hm
theorem qKF:∀ (fu:Nat) {p0:Ad} {r:Int} (hm:lM fu p0=some r),RetN TP 48 [p0.enc] (.int .i64 r):=by
 intro fu
 induction fu with
 | zero=>
  intro p0 r hm;unfold lM at hm;cases hm
 | succ fu ih=>
  intro p0 r hm;refine .unit (aN (bA Q) func48 Q ntmps48 Q Q (λwX gX=>?_)) Q;unfold lM at hm;refine WN [0] Q Q (aP 1 Q (cT 0 Q Q Q (aG 7 Q (aL hm (λd1=>([(3,.d (.int .i64 d1))])) (λd1=>[]) [3] [] Q (λz2 hm=>?_) (λd1 hm=>?_)))))
  ·refine bK 5 Q (aT hm (λ(d5,i6)=>([(3,.d (.int .i64 d5)),(4,.d (.int .i64 i6))])) (λ(d5,i6)=>[]) [3,4] [1] [0] Q k0 Q Q Q Q Q (λs z7 hm hz7=>?_));obtain⟨d5,i6⟩:=s;refine WN [1,3,4] Q Q (aP 5 Q (SX Q Q (aU TK Q Q Q) (aG 3 Q (bG hm Q (λh8 hm=>?_) (λh8 hm=>?_)))))
   ·exact aM 9 Q (VE hm λe9 he9 hm=>SX Q Q (qHH TK Q Q Q Q he9 (Ad.Ai _)) (aH 1 Q (c_N hm (ih ·) Q Q Q Q λr10 hm=>SX Q Q (qKK Q Q Q Q) (aH 6 Q (GE hm λg11 hm=>SX Q Q (aZ Q Q Q Q g11) (aI 2 Q (bU [0] hm Q Q)))))))
   refine aQ 2 Q (IE hm λv12 hm hz=>?_);rw [hz7 _ hz] at hm;exact WX (bP 1 Q (bM [0] hm Q Q))
  exact WN [3] Q Q (aM 2 Q (GE hm λg13 hm=>SX Q Q (aZ Q Q Q Q g13) (aI 4 Q (bN hm Q))))
theorem qMU {p0:Ad} {r:Int} (hm:uP p0=some r):RetN TP 48 [p0.enc] (.int .i64 r):=qKF eR hm
theorem qMP:∀ (fu:Nat) {p0:Ad} {p1:Int} {r:Bool} (hm:lH fu p0 p1=some r),RetN TP 49 [p0.enc,.int .i64 p1] (.bool (r)):=by
 intro fu
 induction fu with
 | zero=>
  intro p0 p1 r hm;unfold lH at hm;cases hm
 | succ fu ih=>
  intro p0 p1 r hm;refine .unit (aN (bA Q) func49 Q ntmps49 Q Q (λwX gX=>?_)) Q;unfold lH at hm;refine WN [0,1] Q Q (aP 1 Q (cT 0 Q Q Q (aH 6 Q (SX Q Q (aU TK Q Q Q) (aG 3 Q (cI hm (λ_=>[]) (λ_=>[]) [] [1,2,5] Q (λz1 hm hz1=>?_) (λj hm=>?_)))))))
  ·refine bK 6 Q (aL hm (λx2=>([(12,.d (.bool (x2)))])) (λx2=>[]) [12] [1,2,5,11] Q (λz3 hm=>?_) (λx2 hm=>?_))
   ·refine bK 5 Q (bG hm Q (λh4 hm=>?_) (λh4 hm=>?_))
    ·exact aQ 1 Q (bM [0] hm Q Q)
    exact aQ 4 Q (bM [0] hm Q Q)
   refine WN [1,2,5,11,12] Q Q (cP hm Q (λh5 hm=>?_) (λh5 hm=>?_))
   ·refine iC [(4,.d (.bool (((decide (p0.var=(0:Int)))&&(decide ((p0.args.length:Int)=(0:Int)))))))] [4] [] Q ?_ ?_
    ·refine aP 4 Q (SB TK Q (λq6 hq6=>?_));cases q6
     ·refine aI 5 Q ?_;exact⟨[0],Q,k0,bX (aV (aX (by first|(simp [hq6];done)|(simp only [hq6];simp))) Q) Q⟩
     refine aI 5 Q ?_;exact⟨[0],Q,k0,bX (aV (aX (by first|(simp [hq6];done)|(simp only [hq6];simp))) Q) Q⟩
    refine WN [4] Q Q (aQ 2 Q (IE hm λv7 hm hz=>?_));rw [hz1 _ hz] at hm;exact WR (bN hm Q)
   refine cR 5 Q (bG hm Q (λh8 hm=>?_) (λh8 hm=>?_))
   ·refine iC [(4,.d (.bool (((decide ((0:Int)<=p0.var))&&((decide (p0.var < p1))&&(decide ((p0.args.length:Int)=(0:Int))))))))] [4] [] Q ?_ ?_
    ·refine aP 4 Q (SB TK Q (λq9 hq9=>?_));cases q9
     ·refine aI 11 Q ?_;exact⟨[0],Q,k0,bX (aV (aX (by first|(simp [hq9];done)|(simp only [hq9];simp))) Q) Q⟩
     refine aH 5 Q (SB TK Q (λq10 hq10=>?_));cases q10
     ·refine aI 5 Q ?_;exact⟨[0],Q,k0,bX (aV (aX (by first|(simp [hq9,hq10];done)|(simp only [hq9,hq10];simp))) Q) Q⟩
     refine aI 5 Q ?_;exact⟨[0],Q,k0,bX (aV (aX (by first|(simp [hq9,hq10];done)|(simp only [hq9,hq10];simp))) Q) Q⟩
    refine WN [4] Q Q (aQ 2 Q (IE hm λv11 hm hz=>?_));rw [hz1 _ hz] at hm;exact WR (bN hm Q)
   refine cR 5 Q (bG hm Q (λh12 hm=>?_) (λh12 hm=>?_))
   ·refine cR 5 Q (qD hm Q (λh13 hm=>?_) (λh13 hm=>?_))
    ·refine aQ 6 Q (IE hm λv14 hm hz=>?_);rw [hz1 _ hz] at hm;exact WR (bN hm Q)
    exact aQ 2 Q (bU [0] hm Q Q)
   refine cR 6 Q (bG hm Q (λh15 hm=>?_) (λh15 hm=>?_))
   ·exact cR 2 Q (zEE Q true h15 (aQ 2 Q (bU [0] hm Q Q)))
   refine cR 5 Q (bG hm Q (λh16 hm=>?_) (λh16 hm=>?_))
   ·exact aQ 2 Q (bU [0] hm Q Q)
   refine aQ 6 Q (IE hm λv17 hm hz=>?_);rw [hz1 _ hz] at hm;exact WR (bN hm Q)
  refine WN [1,2,5] Q Q (cI hm (λ_=>[]) (λ_=>[]) [] [2] Q (λz18 hm hz18=>?_) (λj hm=>?_))
  ·refine bK 5 Q (aT hm (λi20=>([(6,.d (.int .i64 i20))])) (λi20=>[]) [6] [1,2,5] [0] Q k0 Q Q Q Q Q (λi20 z21 hm hz21=>WN [1,2,5,6] Q Q (bK 7 Q (bG hm Q (λh22 hm=>?_) (λh22 hm=>?_)))))
   ·refine aM 8 Q (VE hm λe23 he23 hm=>SX Q Q (qHH TK Q Q Q Q he23 (Ad.Ai _)) (aH 2 Q (c_N hm (ih ·) Q Q Q Q λr24 hm=>aG 3 Q (cP hm Q (λh25 hm=>?_) (λh25 hm=>?_)))))
    ·refine cR 4 Q (WN [4] Q Q (aQ 3 Q (IE hm λv26 hm hz=>?_)));rw [hz21 _ hz] at hm;refine WR (bP 1 Q (IE hm λv27 hm hz=>?_));rw [hz18 _ hz] at hm;exact WR (bN hm Q)
    exact aM 5 Q (GE hm λg28 hm=>SX Q Q (aZ Q Q Q Q g28) (aI 2 Q (bU [0] hm Q Q)))
   refine aQ 2 Q (IE hm λv29 hm hz=>?_);rw [hz21 _ hz] at hm;exact WX (bP 1 Q (bU [0] hm Q Q))
  exact WN [2] Q Q (aQ 8 Q (bN hm Q))
theorem qPI {p0:Ad} {p1:Int} {r:Bool} (hm:xO p0 p1=some r):RetN TP 49 [p0.enc,.int .i64 p1] (.bool (r)):=qMP eR hm
theorem qMQ {p0:Ad} {p1:Int} {r:Bool} (hm:rH p0 p1=some r):RetN TP 15 [p0.enc,.int .i64 p1] (.bool (r)):=by
 refine .unit (aN (bA Q) func15 Q ntmps15 Q Q (λwX gX=>?_)) Q;unfold rH at hm;refine WN [0,1] Q Q (aP 1 Q (cT 0 Q Q Q (aG 3 Q (aL hm (λx1=>([(4,.d (.bool (x1)))])) (λx1=>[]) [4] [] Q (λz2 hm=>?_) (λx1 hm=>?_)))))
 ·refine aP 2 Q (c_N hm (qPJ ·) Q Q Q Q λr3 hm=>aH 1 Q (SB TK Q (λq4 hq4=>?_)));cases q4
  ·replace hm:=JF hq4 hm;exact aI 11 Q (bM [0] hm Q Q)
  replace hm:=JT hq4 hm;refine aH 1 Q (c_N hm (qMU ·) Q Q Q Q λr5 hm=>aH 2 Q (SB TK Q (λq6 hq6=>?_)));cases q6
  ·replace hm:=JF hq6 hm;exact aI 6 Q (bM [0] hm Q Q)
  replace hm:=JT hq6 hm;exact aH 2 Q (c_N hm (qPI ·) Q Q Q Q λr7 hm=>aI 3 Q (bM [0] hm Q Q))
 exact WN [4] Q Q (aQ 1 Q (bN hm Q))
theorem qMT:∀ (fu:Nat) {p0:Ad} {p1:(List Bool)} {r:Bool} (hm:kI fu p0 p1=some r),RetN TP 16 [p0.enc,.sl 1 (p1.map D.bool)] (.bool (r)):=by
 intro fu
 induction fu with
 | zero=>
  intro p0 p1 r hm;unfold kI at hm;cases hm
 | succ fu ih=>
  intro p0 p1 r hm;refine .unit (aN (bA Q) func16 Q ntmps16 Q Q (λwX gX=>?_)) Q;unfold kI at hm;refine WN [0,1] Q Q (aP 1 Q (cT 0 Q Q Q (aG 3 Q (cI hm (λ_=>[]) (λ_=>[]) [] [] Q (λz1 hm hz1=>?_) (λj hm=>?_)))))
  ·refine bK 11 Q (bG hm Q (λh2 hm=>?_) (λh2 hm=>?_))
   ·refine aQ 6 Q (IE hm λv3 hm hz=>?_);rw [hz1 _ hz] at hm;exact WR (bN hm Q)
   refine cR 5 Q (bG hm Q (λh4 hm=>?_) (λh4 hm=>?_))
   ·refine aL hm (λx5=>([(4,.d (.bool (x5)))])) (λx5=>[]) [4] [] Q (λz6 hm=>?_) (λx5 hm=>?_)
    ·refine aP 4 Q (SB TK Q (λq7 hq7=>?_));cases q7
     ·replace hm:=JF hq7 hm;exact aI 15 Q (bM [0] hm Q Q)
     replace hm:=JT hq7 hm;refine aH 3 Q (SX Q Q (aU TK Q Q Q) (aH 2 Q (SB TK Q (λq8 hq8=>?_))));cases q8
     ·replace hm:=JF hq8 hm;exact aI 8 Q (bM [0] hm Q Q)
     replace hm:=JT hq8 hm;exact aH 3 Q (VE hm λe9 he9 hm=>SX Q Q (bR TK Q Q Q Q he9) (aI 4 Q (bM [0] hm Q Q)))
    refine WN [4] Q Q (aQ 2 Q (IE hm λv10 hm hz=>?_));rw [hz1 _ hz] at hm;exact WR (bN hm Q)
   refine cR 5 Q (bG hm Q (λh11 hm=>?_) (λh11 hm=>?_))
   ·refine aL hm (λx12=>([(4,.d (.bool (x12)))])) (λx12=>[]) [4] [] Q (λz13 hm=>?_) (λx12 hm=>?_)
    ·refine aP 3 Q (SX Q Q (aU TK Q Q Q) (aH 1 Q (SB TK Q (λq14 hq14=>?_))));cases q14
     ·replace hm:=JF hq14 hm;exact aI 10 Q (bM [0] hm Q Q)
     replace hm:=JT hq14 hm;exact aH 2 Q (VE hm λe15 he15 hm=>SX Q Q (qHH TK Q Q Q Q he15 (Ad.Ai _)) (aH 2 Q (c_N hm (ih ·) Q Q Q Q λr16 hm=>aI 4 Q (bM [0] hm Q Q))))
    refine WN [4] Q Q (aQ 2 Q (IE hm λv17 hm hz=>?_));rw [hz1 _ hz] at hm;exact WR (bN hm Q)
   refine aL hm (λx18=>([(44,.d (.bool (x18)))])) (λx18=>[]) [44] [1,2] Q (λz19 hm=>?_) (λx18 hm=>?_)
   ·refine bK 5 Q (bG hm Q (λh20 hm=>?_) (λh20 hm=>?_))
    ·exact aQ 1 Q (bM [0] hm Q Q)
    exact aQ 4 Q (bM [0] hm Q Q)
   refine WN [1,2,44] Q Q (cP hm Q (λh21 hm=>?_) (λh21 hm=>?_))
   ·refine cI hm (λ_=>[]) (λ_=>[]) [] [2] Q (λz22 hm hz22=>?_) (λj hm=>?_)
    ·refine bK 5 Q (aT hm (λi24=>([(5,.d (.int .i64 i24))])) (λi24=>[]) [5] [1,2] [0] Q k0 Q Q Q Q Q (λi24 z25 hm hz25=>WN [1,2,5] Q Q (aP 5 Q (SX Q Q (aU TK Q Q Q) (aG 3 Q (bG hm Q (λh26 hm=>?_) (λh26 hm=>?_)))))))
     ·refine cR 4 Q (bV follows ?_);iterate 3 (refine DA [0] TK Q ?_)
      refine VE hm λe27 he27 hm=>DX [0] Q Q (qHH TK Q Q Q Q he27 (Ad.Ai _)) ?_;iterate 2 (refine DA [0] TK Q ?_)
      refine fE [0] hm (ih ·) Q Q Q Q λr28 hm=>?_;iterate 4 (refine DA [0] TK Q ?_)
      refine DT ?_ (by kernel_rfl);refine aG 2 Q (WN [1,2,5,64] Q Q (cP hm Q (λh29 hm=>?_) (λh29 hm=>?_)))
      ·refine aQ 10 Q (IE hm λv30 hm hz=>?_);rw [hz25 _ hz] at hm;refine WR (bP 1 Q (IE hm λv31 hm hz=>?_));rw [hz22 _ hz] at hm;refine WR (bP 1 Q (IE hm λv32 hm hz=>?_));rw [hz1 _ hz] at hm;exact WR (bN hm Q)
      exact aM 5 Q (GE hm λg33 hm=>SX Q Q (aZ Q Q Q Q g33) (aI 2 Q (bU [0] hm Q Q)))
     refine aQ 2 Q (IE hm λv34 hm hz=>?_);rw [hz25 _ hz] at hm;exact WX (bP 1 Q (bU [0] hm Q Q))
    refine WN [2] Q Q (aQ 9 Q (IE hm λv35 hm hz=>?_));rw [hz1 _ hz] at hm;exact WR (bN hm Q)
   exact aQ 2 Q (bU [0] hm Q Q)
  exact WN [] Q Q (aQ 5 Q (bN hm Q))
theorem qEB {p0:Ad} {p1:(List Bool)} {r:Bool} (hm:tE p0 p1=some r):RetN TP 16 [p0.enc,.sl 1 (p1.map D.bool)] (.bool (r)):=qMT eR hm
theorem qAB {p0:Am} {p1:(List Int)} {r:Bool} (hm:mM p0 p1=some r):Ret TP 3 [] (λ_=>false) ([p0.enc,.sl 1 (p1.map (D.int .u64))].map .d) (.d (.bool (r))) []:=by
 refine aN (bA Q) func3 Q ntmps3 Q Q (λwX gX=>?_);unfold mM at hm;refine WN [0,1] Q Q (aP 1 Q (cT 0 Q Q Q (aG 4 Q (aL hm (λx1=>([(19,.d (.bool (x1)))])) (λx1=>[]) [19] [1,2] Q (λz2 hm=>?_) (λx1 hm=>?_)))))
 ·refine aP 2 Q (c_N hm (qNN ·) Q Q Q Q λr3 hm=>aH 1 Q (SB TK Q (λq4 hq4=>?_)));cases q4
  ·replace hm:=JB hq4 hm;exact aH 1 Q (SX Q Q (aU TK Q Q Q) (aI 3 Q (bM [0] hm Q Q)))
  replace hm:=JA hq4 hm;exact aI 5 Q (bM [0] hm Q Q)
 refine WN [1,2,19] Q Q (cP hm Q (λh5 hm=>?_) (λh5 hm=>?_))
 ·exact aM 1 Q (BE hm λr6 hr6 hm=>SX Q Q (RN Q Q SN (qCN hr6)) (aI 5 Q (bN hm Q)))
 refine aM 4 Q (BE hm λr7 hr7 hm=>?_);obtain⟨r8,r9⟩:=r7;refine SX Q Q (jL Q Q Q (qEL hr7)) (aH 9 Q (BE hm λr10 hr10 hm=>?_));obtain⟨r11,r12⟩:=r10;refine SX Q Q (jL Q Q Q (qSK hr10)) (aG 8 Q ?_);refine iC [(40,.d (.bool (((!(decide (r9=r12)))||(!(decide ((r8.length:Int)=(r11.length:Int))))))))] [40] [1,2,5,6,7] Q ?_ ?_
 ·refine aP 4 Q (SB TK Q (λq13 hq13=>?_));cases q13
  ·refine aH 1 Q (SX Q Q (aU TK Q Q Q) (aH 1 Q (SX Q Q (aU TK Q Q Q) (aI 3 Q ?_))));exact⟨[0],Q,k0,bX (aV (aX (by first|(simp [hq13];done)|(simp only [hq13];simp))) Q) Q⟩
  refine aI 7 Q ?_;exact⟨[0],Q,k0,bX (aV (aX (by first|(simp [hq13];done)|(simp only [hq13];simp))) Q) Q⟩
 refine WN [1,2,5,6,7,40] Q Q (cP hm Q (λh14 hm=>?_) (λh14 hm=>?_))
 ·exact aQ 6 Q (bN hm Q)
 refine cR 6 Q (aL hm (λn15=>([(9,.d (.int .i64 n15))])) (λn15=>[]) [9] [1,5,7] Q (λz16 hm=>?_) (λn15 hm=>?_))
 ·refine bK 5 Q (bG hm Q (λh17 hm=>?_) (λh17 hm=>?_))
  ·exact aM 2 Q (c_D hm (lV ·) Q Q Q Q λr18 hm=>aI 3 Q (bM [0] hm Q Q))
  exact aQ 1 Q (bM [0] hm Q Q)
 refine WN [1,5,7,9] Q Q (aM 3 Q (c_D hm (qQO ·) Q Q Q Q λr19 hm=>aG 3 Q (cI hm (λ_=>[]) (λ_=>[]) [] [] Q (λz20 hm hz20=>?_) (λj hm=>?_))))
 ·refine aP 2 Q (SX Q Q (aU TK Q Q Q) (aG 4 Q (aT hm (λx22=>([(51,.d (.int .i64 x22))])) (λx22=>[]) [51] [5,7,9,10,50] [0] Q k0 Q Q Q Q Q (λx22 z23 hm hz23=>WN [5,7,9,10,50,51] Q Q (bK 5 Q (bG hm Q (λh24 hm=>?_) (λh24 hm=>?_)))))))
  ·refine cR 9 Q (aL hm (λx25=>([(91,.d (.bool (x25)))])) (λx25=>[]) [91] [5,7,9,10,50,51] Q (λz26 hm=>?_) (λx25 hm=>?_))
   ·refine iW follows ?_;iterate 2 (refine DA [0] TK Q ?_)
    refine VE hm λe27 he27 hm=>DX [0] Q Q (bR TK Q Q Q Q he27) ?_;iterate 4 (refine DA [0] TK Q ?_)
    refine VE hm λe28 he28 hm=>DX [0] Q Q (bR TK Q Q Q Q he28) ?_;iterate 3 (refine DA [0] TK Q ?_)
    refine d_b [0] TK Q (λq29 hq29=>?_);cases q29
    ·replace hm:=qAF hq29 hm;iterate 2 (refine DA [0] TK Q ?_)
     refine VE hm λe30 he30 hm=>DX [0] Q Q (bR TK Q Q Q Q he30) ?_;iterate 3 (refine DA [0] TK Q ?_)
     refine fE [0] hm (qMQ ·) Q Q Q Q λr31 hm=>?_;iterate 2 (refine DA [0] TK Q ?_)
     refine d_b [0] TK Q (λq32 hq32=>?_);cases q32
     ·replace hm:=JB hq32 hm;iterate 2 (refine DA [0] TK Q ?_)
      refine VE hm λe33 he33 hm=>DX [0] Q Q (bR TK Q Q Q Q he33) ?_;iterate 3 (refine DA [0] TK Q ?_)
      refine fE [0] hm (qEB ·) Q Q Q Q λr34 hm=>?_;iterate 2 (refine DA [0] TK Q ?_)
      refine VE hm λe35 he35 hm=>DX [0] Q Q (bR TK Q Q Q Q he35) ?_;iterate 3 (refine DA [0] TK Q ?_)
      refine fE [0] hm (qEB ·) Q Q Q Q λr36 hm=>?_;iterate 2 (refine DA [0] TK Q ?_)
      refine DT ?_ (by kernel_rfl);exact aI 1 Q (bM [0] hm Q Q)
     replace hm:=JA hq32 hm;iterate 16 (refine DA [0] TK Q ?_)
     refine DT ?_ (by kernel_rfl);exact aI 1 Q (bM [0] hm Q Q)
    replace hm:=qAE hq29 hm;iterate 26 (refine DA [0] TK Q ?_)
    refine DT ?_ (by kernel_rfl);exact aI 1 Q (bM [0] hm Q Q)
   refine WN [5,7,9,10,50,51,91] Q Q (cP hm Q (λh37 hm=>?_) (λh37 hm=>?_))
   ·refine aQ 7 Q (IE hm λv38 hm hz=>?_);rw [hz23 _ hz] at hm;refine WR (bP 1 Q (IE hm λv39 hm hz=>?_));rw [hz20 _ hz] at hm;exact WR (bN hm Q)
   exact aM 4 Q (GE hm λg40 hm=>SX Q Q (aZ Q Q Q Q g40) (aI 2 Q (bU [0] hm Q Q)))
  refine aQ 2 Q (IE hm λv41 hm hz=>?_);rw [hz23 _ hz] at hm;exact WX (bP 1 Q (bU [0] hm Q Q))
 exact WN [] Q Q (aM 1 Q (BE hm λr42 hr42 hm=>SX Q Q (RN Q Q SN (qCN hr42)) (aI 4 Q (bN hm Q))))
end Go.Proofs.YtldaknhjmhlefaaGreatDoor
set_option maxHeartbeats 8000000
set_option linter.unusedSimpArgs false
set_option linter.unusedVariables false
set_option maxRecDepth 20000
namespace Go.Proofs.YtldaknhjmhlefaaGreatDoor
open Go Go.TL
structure A7 where
 state:Int
 rel:Int
 timer:Int
deriving DecidableEq,Inhabited
def A7.ok (x:A7):Prop:=I64 x.state/\I64 x.rel/\I64 x.timer
instance (x:A7):Decidable (A7.ok x):=by unfold A7.ok;infer_instance
structure Bo where
 Ac:(List A7)
 lies:(List Int)
deriving DecidableEq,Inhabited
def gH:Option Nat->Int
 | some i=>i
 | none=>-1
theorem qOJ (o:Option Nat):decide (0<=gH o)=o.isSome:=by cases o<;>simp [gH]
theorem qTU (o:Option Nat):decide (gH o < 0)=!o.isSome:=by
 cases o with
 | none=>simp [gH]
 | some i=>show decide ((i:Int) < 0)=false;simp
theorem idx_at {α:Type} {p:α->Bool} {l:List α} {i:Nat} {x:α} (h:zDU p l i) (hx:l[i]?=some x) (hs:p x=true):l.findIdx? p=some i:=by
 rw [List.findIdx?_eq_some_iff_getElem];have hlt:=(zQQ.1 hx).1;have he:=(zQQ.1 hx).2;refine⟨hlt,by rw [he];exact hs,λj hj=>?_⟩;unfold zDU at h;rw [List.any_eq_false] at h;have:=h l[j] (List.mem_take_iff_getElem.2 ⟨j,by omega,rfl⟩);simpa using this
theorem pO {α:Type} {p:α->Bool} {l:List α} {i:Nat} (h:l.findIdx? p=some i):∃ x,l[i]?=some x/\p x=true/\i < l.length:=by
 rw [List.findIdx?_eq_some_iff_getElem] at h;obtain⟨hlt,hp,_⟩:=h;exact⟨l[i],by simp [hlt],hp,hlt⟩
def cZ (l:List Int) (x:Int):Option Nat:=l.findIdx? λy=>y == x
theorem qLE (l:List Int) (x:Int):(cZ l x).isSome=decide (x∈l):=by
 unfold cZ;rw [List.findIdx?_isSome,Bool.eq_iff_iff,zQU];simp
def yP (n:Nat) (P:Nat->Bool):Bool:=(List.range n).all P
def upTo (P:Nat->Bool) (i:Nat):Prop:=∀ j,j < i->P j=true
theorem allB_iff {P:Nat->Bool} {n:Nat}:yP n P=true↔∀ i,i < n->P i=true:=by
 unfold yP;rw [zQT];simp
def inB (n c:Int):Bool:=decide (0<=n/\n < c)
def vM (t:Am) (i:Nat):Bool:=decide (0<=t.Ae.getD i 0/\(0 < i->t.Ae.getD (i - 1) 0 < t.Ae.getD i 0)/\0<=t.As.getD i 0/\t.As.getD i 0 < t.Aa)
def qX (t:Am):Bool:=decide (t.As.length=t.Ae.length)&&yP t.Ae.length (vM t)
theorem qGI {t:Am} {i:Nat} {p q h:Int} (hp:t.Ae[i]?=some p) (hq:t.Ae[i - 1]?=some q) (hh:t.As[i]?=some h):vM t i=decide (0<=p/\(0 < i->q < p)/\0<=h/\h < t.Aa):=by
 simp only [vM,zQD,hp,hq,hh,Option.getD_some]
def qDX (t:Am) (l:List Ag) (i:Nat):Bool:=decide ((cZ t.Ae (l.getD i ⟨0,0⟩).el).isSome=true/\1<=(l.getD i ⟨0,0⟩).pos/\(l.getD i ⟨0,0⟩).pos<=2/\(0 < i->(l.getD (i - 1) ⟨0,0⟩).el < (l.getD i ⟨0,0⟩).el))
def iE (t:Am) (l:List Ag):Bool:=yP l.length (qDX t l)
theorem qJV {t:Am} {l:List Ag} {i:Nat} {x y:Ag} (hx:l[i]?=some x) (hy:l[i - 1]?=some y):qDX t l i=decide ((cZ t.Ae x.el).isSome=true/\1<=x.pos/\x.pos<=2/\(0 < i->y.el < x.el)):=by
 simp only [qDX,zQD,hx,hy,Option.getD_some]
def oQ (a b:List Ag):Bool:=a.all λx=>b.all λy=>!(decide (x.el=y.el)&&!decide (x.pos=y.pos))
def qVE (t:Am) (l:List Int) (i:Nat):Bool:=inB (l.getD i 0) t.Aa&&!decide (l.getD i 0∈l.take i)
def qHL (t:Am) (l:List Int):Bool:=yP l.length (qVE t l)
theorem xM {t:Am} {l:List Int} {i:Nat} {s:Int} (hs:l[i]?=some s):qVE t l i=(inB s t.Aa&&!decide (s∈l.take i)):=by
 simp only [qVE,zQD,hs,Option.getD_some]
def qYA (t:Am) (r:Aj):Bool:=inB r.entry t.Al&&decide (-1<=r.exit/\r.exit < t.Al)&&decide (1<=r.path.length/\r.path.length<=12)
def nF (t:Am) (r:Aj):Bool:=qYA t r&&decide (0 < r.Aa.length)&&qHL t (r.Aa++r.Ah)&&inB r.A4 t.Aa&&decide (1<=r.length)
def rQ (t:Am) (r:Aj):Bool:=iE t r.Ae&&iE t r.Ar&&iE t r.Az
def rA (r:Aj):Bool:=oQ r.Ae r.Ar&&oQ r.Ae r.Az&&oQ r.Ar r.Az
def qCK (l:List Aj) (i:Nat):Bool:=(l[i]?).all λr=>!((l.take i).any λq=>decide (q.name=r.name))
def qAA (l:List Aj):Bool:=yP l.length (qCK l)
theorem qKT {l:List Aj} {i:Nat} {r:Aj} (hr:l[i]?=some r):qCK l i=!((l.take i).any λq=>decide (q.name=r.name)):=by simp only [qCK,hr,Option.all_some]
def qIH (t:Am):Bool:=decide (t.Ac.length<=48/\t.Ae.length<=32/\0<=t.Aa/\t.Aa<=24/\0<=t.Al/\t.Al<=20)
def gI (t:Am):Int:=
 if qIH t=false then 2
 else if qX t=false then 1
 else if t.Ac.all (λr=>nF t r&&rQ t r)=false then 1
 else if t.Ac.all rA=false then 10
 else if qAA t.Ac=false then 8
 else 0
section chk
variable {t:Am}
theorem qOR (h:qIH t=false):gI t=2:=by simp [gI,h]
theorem qFE (h1:qIH t=true) (h:qX t=false):gI t=1:=by simp [gI,h1,h]
end chk
def pB (l:List Int) (i:Nat):List Bool:=(List.range 24).map λ(j:Nat)=>decide ((j:Int)∈l.take i)
theorem qRR (l:List Int):pB l 0=List.replicate 24 false:=by simp [pB,List.map_const']
theorem qMI (l:List Int) (i:Nat):(pB l i).length=24:=by simp [pB]
theorem qVB (l:List Int) (i:Nat) {s:Int} (h0:0<=s) (h1:s < 24):(pB l i)[s.toNat]?=some (decide (s∈l.take i)):=by
 have:s.toNat < 24:=by omega
 simp [pB,this,Int.toNat_of_nonneg h0]
theorem qVA {l:List Int} {i:Nat} {s:Int} (hs:l[i]?=some s) (h0:0<=s) (h1:s < 24):(pB l i).set s.toNat true=pB l (i+1):=by
 apply List.ext_getElem?;intro j;by_cases hj:j < 24
 ·have e1 : ∀ k, (pB l k)[j]? = some (decide ((j : Int) ∈ l.take k)) := fun k => by simp [pB, hj]
  rw [List.getElem?_set,e1,e1,List.take_add_one,hs];split
  ·rename_i e;rw [if_pos (by rw [qMI];omega)];have:(j:Int)=s:=by omega
   simp [this]
  rename_i e;have:¬ (j:Int)=s:=by omega
  simp [this]
 rw [List.getElem?_eq_none (by simp [pB];omega),List.getElem?_eq_none (by simp [pB];omega)]
def kJ (l:List Aj) (i:Nat):List (BA×Bool):=(l.take i).map λr=>(r.name,true)
theorem qQJ (l:List Aj):kJ l 0=[]:=by simp [kJ]
theorem qEN {l:List Aj} {i:Nat} {r:Aj} (hr:l[i]?=some r):kJ l i++[(r.name,true)]=kJ l (i+1):=by
 unfold kJ;rw [List.take_add_one,hr];simp
theorem qNJ (l:List Aj) (i:Nat) (s:BA):(match jJ (kJ l i) s with|some b=>D.bool b|none=>D.bool false)=D.bool ((l.take i).any λq=>decide (q.name=s)):=by
 unfold kJ
 induction l.take i with
 | nil=>rfl
 | cons x r ih=>
  simp only [List.map_cons,List.any_cons,jJ,List.find?_cons]
  cases h:decide (x.name=s) with
  | true=>simp
  | false=>simpa [jJ] using ih
theorem qQK {l:List Aj} {i:Nat} {s:BA} (h:((l.take i).any λq=>decide (q.name=s))=false):jJ (kJ l i) s=none:=by
 unfold kJ jJ;rw [Option.map_eq_none_iff,List.find?_eq_none];intro x hx;simp only [List.mem_map] at hx;obtain⟨r,hr,rfl⟩:=hx;rw [List.any_eq_false] at h;simpa using h r hr
theorem qCJ {l:List Aj}:∀ {i:Nat},upTo (qCK l) i->((kJ l i).map (·.1)).Nodup
 | 0,_=>by simp [kJ]
 | i+1,h=>by
  have ih:=qCJ (i:=i) λj hj=>h j (by omega)
  cases hr:l[i]? with
  | none=>unfold kJ at *; rw [List.take_add_one,hr];simpa using ih
  | some r=>
   have hn:=h i (by omega);rw [qKT hr] at hn;rw [<- qEN hr,List.map_append,List.nodup_append];refine⟨ih,by simp,λa ha b hb e=>?_⟩;simp only [List.map_cons,List.map_nil,List.mem_singleton] at hb;subst hb;subst e;unfold kJ at ha;simp only [List.map_map,List.mem_map,Function.comp_apply] at ha;obtain⟨q,hq,he⟩:=ha;simp only [Bool.not_eq_true',List.any_eq_false] at hn;exact hn q hq (by simp [he])
theorem zAE {l:List Aj} {i:Nat} {r:Aj} (hr:l[i]?=some r):decide (gH (l.findIdx? λq=>decide (q.name=r.name))=(i:Int))=qCK l i:=by
 rw [qKT hr,Bool.eq_iff_iff];have hi:=(zQQ.1 hr).1;have hri:=(zQQ.1 hr).2;simp only [decide_eq_true_eq,Bool.not_eq_true',List.any_eq_false];constructor
 ·intro h q hq
  cases e:l.findIdx? λq=>decide (q.name=r.name) with
  | none=>rw [e] at h;simp only [gH] at h;omega
  | some j=>
   rw [e] at h;simp only [gH] at h;have:j=i:=by omega
   subst this;rw [List.findIdx?_eq_some_iff_getElem] at e;obtain⟨_,_,h3⟩:=e;obtain⟨k,hk,rfl⟩:=List.mem_take_iff_getElem.1 hq;simpa using h3 k (by omega)
 intro h
 have:l.findIdx? (λq=>decide (q.name=r.name))=some i:=by
  refine idx_at (x:=r) ?_ hr (by simp);unfold zDU;rw [List.any_eq_false];simpa using h
 rw [this];rfl
def qKA (x:A7) (n:Int):Bool:=
 if x.state=0\/x.state=1\/x.state=2 then decide (x.rel=0/\x.timer=0)
 else if x.state=3 then decide (0<=x.rel/\x.rel < n/\(x.timer=0\/(x.rel=n - 1/\0 < x.timer/\x.timer < 4)))
 else if x.state=4 then decide (0<=x.rel/\x.rel < n/\0<=x.timer/\x.timer < 12)
 else false
theorem kK {i n:Nat} (h:i < n):((i:Int) < (n:Int))=True:=by simp [h]
abbrev Cnt {α:Type} (l:List α):Prop:=l.length<=9223372036854775807
theorem rN (l:List Int) (x:Int) (h:Cnt l):eD l x=some (gH (cZ l x)):=by
 unfold eD;rw [wQ l (λy=>y == x) (λi=>.inr (i:Int)) (.inl ()) h]
 ·unfold cZ;cases l.findIdx? (λy=>y == x)<;>rfl
 ·intro i e he;have hi:=(zQQ.1 he).1;simp only [kK hi,if_true,aR he];by_cases hx:x=e
  ·simp [hx]
  have : ¬ (e == x) = true := by simp; exact fun q => hx q.symm
  simp [hx,this,bD hi h]
 simp
theorem oR (t:Am) (x:Int) (h:Cnt t.Ae):iD t x=some (gH (cZ t.Ae x)):=by
 simp [iD,rN _ _ h]
theorem oN (t:Am) (x:Int) (h:Cnt t.Ae):jV t x=some (gH (cZ t.Ae x)):=by
 unfold jV;rw [wQ t.Ae (λy=>y == x) (λi=>.inr (i:Int)) (.inl ()) h]
 ·unfold cZ;cases t.Ae.findIdx? (λy=>y == x)<;>rfl
 ·intro i e he;have hi:=(zQQ.1 he).1;simp only [kK hi,if_true,aR he];by_cases hx:e=x
  ·simp [hx]
  simp [hx,bD hi h]
 simp
theorem zCZ (l:List Int) (x:Int) (h:Cnt l):wL l x=some (decide (x∈l)):=by
 unfold wL;rw [kW l (λy=>y == x) (.inr true) (.inl ()) h]
 ·by_cases hx:x∈l
  ·have : (l.any fun y => y == x) = true := by simpa using hx
   simp [this,hx]
  have : ¬ (l.any fun y => y == x) = true := by simpa using hx
  simp only [if_neg this];simp [hx]
 ·intro i e he;have hi:=(zQQ.1 he).1;simp only [kK hi,if_true,aR he];by_cases hx:e=x
  ·simp [hx]
  simp [hx,bD hi h]
 simp
theorem qAL (l:List Int) (x:Int) (h:Cnt l):fI l x=some (decide (x∈l)):=by
 simp only [fI,rN l x h,aA,Option.some.injEq];rw [qOJ,qLE]
theorem qAY (n c:Int):fH n c=some (inB n c):=by simp [fH,inB]
theorem mG (n:Nat) (P:Nat->Bool):((List.range n).any λi=>!P i)=!yP n P:=by simp [yP,List.not_all_eq_any_not]
theorem qEM {α:Type} (l:List α) (P:α->Bool):(l.any λi=>!P i)=!l.all P:=by simp [List.not_all_eq_any_not]
theorem qKO (t:Am) (h:Cnt t.Ae):lE t=some (qX t):=by
 unfold lE qX;by_cases e:t.As.length=t.Ae.length
 ·rw [if_pos (by rw [e]), qQ t.Ae.length (fun i => !vM t i) (.inr false) (.inl ()) h, mG]
  ·simp only [e,decide_true,Bool.true_and];cases yP t.Ae.length (vM t)<;>rfl
  ·intro i hi;obtain⟨p,hp⟩:=oO hi;obtain⟨q,hq⟩:=oO (xs:=t.Ae) (i:=i - 1) (by omega);obtain⟨hm,hh⟩:=oO (xs:=t.As) (i:=i) (by omega);simp only [kK hi,if_true,aR hp,aR hh,qAY,aA];rw [qGI hp hq hh];by_cases h0:0 < i
   ·have e1 : ((i : Int) - 1) = ((i - 1 : Nat) : Int) := by omega
    have e2:I64 ((i - 1:Nat):Int):=by unfold I64;omega
    have e3:(0:Int) < (i:Int):=by omega
    simp only [e1,aB e2,aR hq,e3,if_true];simp only [mW,aA,aB (bD hi h),eV]
    grind [inB]
   have e3 : ¬ (0 : Int) < (i : Int) := by omega
   simp only [e3,if_false,mW,aA,aB (bD hi h),eV]
   grind [inB]
  simp
 rw [if_neg (by omega)];simp [e]
theorem qE (t:Am) (l:List Ag) (ht:Cnt t.Ae) (h:Cnt l):eW t l=some (iE t l):=by
 unfold eW iE;rw [qQ l.length (λi=>!qDX t l i) (.inr false) (.inl ()) h,mG]
 ·cases yP l.length (qDX t l)<;>rfl
 ·intro i hi;obtain⟨x,hx⟩:=oO hi;obtain⟨y,hy⟩:=oO (xs:=l) (i:=i - 1) (by omega);simp only [kK hi,if_true,aR hx,oR _ _ ht,aA,qTU];rw [qJV hx hy];by_cases h0:0 < i
  ·have e1 : ((i : Int) - 1) = ((i - 1 : Nat) : Int) := by omega
   have e2:I64 ((i - 1:Nat):Int):=by unfold I64;omega
   have e3:(0:Int) < (i:Int):=by omega
   simp only [e1,aB e2,aR hy,e3,if_true,mW,aA,aB (bD hi h),eV]
   grind
  have e3 : ¬ (0 : Int) < (i : Int) := by omega
  simp only [e3,if_false,mW,aA,aB (bD hi h),eV]
  grind
 simp
theorem vA (t:Am) (l:List Ag) (ht:Cnt t.Ae) (h:Cnt l):hZ t l=some (iE t l):=by
 unfold hZ iE;rw [qQ l.length (λi=>!qDX t l i) (.inr false) (.inl ()) h,mG]
 ·cases yP l.length (qDX t l)<;>rfl
 ·intro i hi;obtain⟨x,hx⟩:=oO hi;obtain⟨y,hy⟩:=oO (xs:=l) (i:=i - 1) (by omega);have hneg:=qTU (cZ t.Ae x.el);simp only [kK hi,if_true,aR hx,oN _ _ ht,aA];rw [qJV hx hy];by_cases h0:0 < i
  ·have e1 : ((i : Int) - 1) = ((i - 1 : Nat) : Int) := by omega
   have e2:I64 ((i - 1:Nat):Int):=by unfold I64;omega
   have e3:(0:Int) < (i:Int):=by omega
   simp only [e1,aB e2,aR hy,e3,if_true,mW,aA,aB (bD hi h),eV]
   grind
  have e3 : ¬ (0 : Int) < (i : Int) := by omega
  simp only [e3,if_false,mW,aA,aB (bD hi h),eV]
  grind
 simp
theorem qOV (a b:List Ag):(a.any λx=>b.any λy=>decide (x.el=y.el)&&!decide (x.pos=y.pos))=!oQ a b:=by
 unfold oQ;rw [List.not_all_eq_any_not]
 congr 1
 funext x
 rw [List.not_all_eq_any_not];simp
theorem qME (a b:List Ag) (ha:Cnt a) (hb:Cnt b):iA a b=some (oQ a b):=by
 unfold iA;rw [kW a (λx=>b.any λy=>decide (x.el=y.el)&&!decide (x.pos=y.pos)) (.inr false) (.inl ()) ha,qOV]
 ·cases oQ a b<;>rfl
 ·intro i x hx;have hi:=(zQQ.1 hx).1;simp only [kK hi,if_true,aR hx];rw [kW b (λy=>decide (x.el=y.el)&&!decide (x.pos=y.pos)) (.inr (.inr (.inr false))) (.inl ()) hb]
  ·simp only [aB (bD hi ha)];split<;>rfl
  ·intro j y hy;have hj:=(zQQ.1 hy).1;simp only [kK hj,if_true,aR hy,aB (bD hj hb),eV]
  simp
 simp
theorem qDR (a b:List Ag) (ha:Cnt a) (hb:Cnt b):kP a b=some (oQ a b):=by
 unfold kP;rw [kW a (λx=>b.any λy=>decide (x.el=y.el)&&!decide (x.pos=y.pos)) (.inr false) (.inl ()) ha,qOV]
 ·cases oQ a b<;>rfl
 ·intro i x hx;have hi:=(zQQ.1 hx).1;simp only [kK hi,if_true,aR hx];rw [kW b (λy=>decide (x.el=y.el)&&!decide (x.pos=y.pos)) (.inr (.inr (.inr false))) (.inl ()) hb]
  ·simp only [aB (bD hi ha)];split<;>rfl
  ·intro j y hy;have hj:=(zQQ.1 hy).1;simp only [kK hj,if_true,aR hy,aB (bD hj hb),eV]
  simp
 simp
structure Short (r:Aj):Prop where
 secs:r.Aa.length+r.Ah.length<=2000000
 Ae:r.Ae.length<=2000000
 over:r.Ar.length<=2000000
 Az:r.Az.length<=2000000
structure TOk (t:Am):Prop where
 Ac:t.Ac.length<=2000000
 Ae:t.Ae.length<=2000000
 each:∀ r∈t.Ac,Short r
theorem qMK (t:Am) (l:List Int) (h:Cnt l):nI t l=some (qHL t l):=by
 unfold nI qHL;rw [qQ l.length (λi=>!qVE t l i) (.inr false) (.inl ()) h,mG]
 ·cases yP l.length (qVE t l)<;>rfl
 ·intro i hi;obtain⟨x,hx⟩:=oO hi;simp only [kK hi,if_true,aR hx];rw [xM hx]
  have hm:((List.range i).any λj=>decide (l[j]?=some x))=decide (x∈l.take i):=by
   rw [Bool.eq_iff_iff,zQU,decide_eq_true_eq,List.mem_take_iff_getElem];constructor
   ·rintro⟨j,hj,hjx⟩;have hj:=List.mem_range.1 hj;have:=of_decide_eq_true hjx;obtain⟨h1,h2⟩:=zQQ.1 this;exact⟨j,by omega,h2⟩
   rintro⟨j,hj,rfl⟩;exact⟨j,List.mem_range.2 (by omega),by simp⟩
  by_cases hb:x < 0\/t.Aa<=x
  ·have : inB x t.Aa = false := by unfold inB; simp; omega
   simp only [this];simp [hb]
  have hin : inB x t.Aa = true := by unfold inB; simp; omega
  rw [if_neg (by simpa using hb),qQ i (λj=>decide (l[j]?=some x)) (.inr (.inr (.inr false))) (.inl ()) (by omega),hm]
  ·simp only [hin,Bool.true_and,Bool.not_not,aB (bD hi h)];split<;>rfl
  ·intro j hj;obtain⟨y,hy⟩:=oO (xs:=l) (i:=j) (by omega);simp only [kK hj,if_true,aR hy,hy,aB (bD hj (by omega)),eV,Option.some.injEq,decide_eq_true_eq]
  simp
 simp
theorem qVI (t:Am) (r:Aj) (h:Short r):oU t r=some (nF t r):=by
 have h1:=h.secs;unfold oU nF qYA;rw [aB (by simp;omega),aB (by simp;omega)];simp only [List.nil_append,qMK t (r.Aa++r.Ah) (by simp;omega),aA,mW]
 grind [inB]
theorem qBO (xss:List (List Int)) (h:xss.length<=1000/\xss.flatten.length<=1000000000):iO xss=some xss.flatten:=aB h
theorem qML (t:Am) (r:Aj) (hs:t.Aa<=24) (h:Short r):kS t r=some (nF t r):=by
 have h1:=h.secs;unfold kS;rw [qBO _ (by simp;omega)];have hcat:([r.Aa,r.Ah]:List (List Int)).flatten=r.Aa++r.Ah:=by simp
 simp only [hcat,aA,qAY,mW];generalize hl:r.Aa++r.Ah=l;have hln:l.length<=2000000:=by rw [<- hl];simp;omega
 rw [qOG l.length (pB l) (λi=>!qVE t l i) (.inr false) (.inl (pB l l.length)) (qRR l).symm (by omega),mG]
 ·unfold nF qYA qHL;rw [hl];clear hcat hl;cases yP l.length (qVE t l)
  ·simp only [Bool.not_false,if_true,lD,qLC,Option.some.injEq];rw [Bool.eq_iff_iff];simp only [qUN,zQA,decide_eq_true_eq,Bool.or_eq_true,inB,Bool.not_eq_true',decide_eq_false_iff_not]
   grind
  simp only [Bool.not_true,Bool.false_eq_true,if_false,qT,qLC,Option.some.injEq];rw [Bool.eq_iff_iff];simp only [qUN,zQA,decide_eq_true_eq,Bool.or_eq_true,inB,Bool.not_eq_true',decide_eq_false_iff_not]
  grind
 ·intro i hi _;obtain⟨x,hx⟩:=oO hi;simp only [kK hi,if_true,aR hx];rw [xM hx];by_cases hin:inB x t.Aa=true
  ·have hx0 : 0 <= x /\ x < 24 := by unfold inB at hin; simp at hin; omega
   have hg:=qVB l i hx0.1 hx0.2;simp only [hin,aB hx0.2,qLH hx0.1 hg,aA,Bool.not_true,Bool.true_and,Bool.not_not,aB (bD hi (by omega)),qVA hx hx0.1 hx0.2,eV];by_cases hm:x∈l.take i<;>simp [hm]
  have hin : inB x t.Aa = false := by simpa using hin
  simp [hin]
 intro _;simp
theorem qSV {α β:Type} [DecidableEq α] {fs:List (α×β)} {k:α} {v:β} (h:jJ fs k=none):qQC fs k v=fs++[(k,v)]:=by
 unfold qQC
 have:(fs.findIdx? λx=>decide (x.1=k))=none:=by
  unfold jJ at h;rw [Option.map_eq_none_iff,List.find?_eq_none] at h;rw [List.findIdx?_eq_none_iff];intro x hx;simpa using h x hx
 rw [this]
theorem qTJ (t : Am) (h : t.Ac.length <= 2000000) (k : List (BA × Bool) -> Option Int) : eE (aW (fun (x, b) =>
     if x < (t.Ac.length : Int) then
      bC t.Ac x fun e =>
      aD (b.map (·.1)).Nodup <|
      if (((jJ b e.name).getD false)) = true then
       aY (aY (some (8 : Int)))
      else
       aD (b.map (·.1)).Nodup <|
       aD (I64 (x + (1 : Int))) <|
       some (.inl ((x + (1 : Int)), (qQC b e.name true)))
     else
      aY (some (.inl b))) ((0 : Int), ([] : List (BA × Bool)))) k = if qAA t.Ac = true then k (kJ t.Ac t.Ac.length) else some 8 := by
 rw [qOG t.Ac.length (kJ t.Ac) (λi=>!qCK t.Ac i) (.inr 8) (.inl (kJ t.Ac t.Ac.length)) (qQJ _).symm (by omega),mG]
 ·unfold qAA;cases yP t.Ac.length (qCK t.Ac)<;>rfl
 ·intro i hi hj;obtain⟨x,hx⟩:=oO hi;have hnd:((kJ t.Ac i).map (·.1)).Nodup:=qCJ λj hjj=>by have:=hj j hjj;simpa using this
  simp only [kK hi,if_true,aR hx,aB hnd,aB (bD hi (by omega))];rw [qKT hx,Bool.not_not];have ha:=qNJ t.Ac i x.name
  cases hc:((t.Ac.take i).any λq=>decide (q.name=x.name)) with
  | true=>
   rw [hc] at ha
   have:((jJ (kJ t.Ac i) x.name).getD false)=true:=by
    cases e:jJ (kJ t.Ac i) x.name with
    | none=>rw [e] at ha;simp at ha
    | some b=>rw [e] at ha;simp at ha;simp [ha]
   simp [this]
  | false=>
   have hn:=qQK hc;simp [hn,qSV hn,qEN hx]
 intro hj;simp
theorem qTH (l : List Aj) (P : Aj -> Bool) (v : Int) (h : l.length <= 2000000) (g : Aj -> Option Bool) (hg : ∀ r ∈ l, g r = some (P r)) (k : Unit -> Option Int) : eE (aW (fun x =>
     if x < (l.length : Int) then
      bC l x fun e =>
      aC (g e) fun r =>
      if (!(r)) = true then
       aY (aY (some v))
      else
       aD (I64 (x + (1 : Int))) <|
       some (.inl (x + (1 : Int)))
     else
      aY (some (.inl ()))) (0 : Int)) k = if l.all P = true then k () else some v := by
 rw [kW l (λr=>!P r) (.inr v) (.inl ()) (by omega),qEM]
 ·cases l.all P<;>rfl
 ·intro i x hx;have hi:=(zQQ.1 hx).1;simp only [kK hi,if_true,aR hx,hg x (zQM hx),aA,aB (bD hi (by omega)),eV]
 simp
theorem sH (l : List Aj) (P : Aj -> Bool) (v : Int) (h : l.length <= 2000000) (g : Aj -> Option Bool) (hg : ∀ r ∈ l, g r = some (!P r)) (k : Unit -> Option Int) : eE (aW (fun x =>
     if x < (l.length : Int) then
      bC l x fun e =>
      aC (g e) fun r =>
      if r = true then
       aY (aY (some v))
      else
       aD (I64 (x + (1 : Int))) <|
       some (.inl (x + (1 : Int)))
     else
      aY (some (.inl ()))) (0 : Int)) k = if l.all P = true then k () else some v := by
 rw [kW l (λr=>!P r) (.inr v) (.inl ()) (by omega),qEM]
 ·cases l.all P<;>rfl
 ·intro i x hx;have hi:=(zQQ.1 hx).1;simp only [kK hi,if_true,aR hx,hg x (zQM hx),aA,aB (bD hi (by omega)),eV]
 simp
theorem qZE (t:Am) (r:Aj) (ht:Cnt t.Ae) (h:Short r):(aC (eW t r.Ae) λa=>if (!(a))=true then some true else aC (eW t r.Ar) λb=>if (!(b))=true then some true else aC (eW t r.Az) λc=>some (!(c)))=some (!rQ t r):=by
 have h1:=h.Ae;have h2:=h.over;have h3:=h.Az;rw [qE t _ ht (by omega),qE t _ ht (by omega),qE t _ ht (by omega)];unfold rQ;cases iE t r.Ae<;>cases iE t r.Ar<;>cases iE t r.Az<;>rfl
theorem qWV (r:Aj) (h:Short r):(aC (iA r.Ae r.Ar) λa=>if (!(a))=true then some true else aC (iA r.Ae r.Az) λb=>if (!(b))=true then some true else aC (iA r.Ar r.Az) λc=>some (!(c)))=some (!rA r):=by
 have h1:=h.Ae;have h2:=h.over;have h3:=h.Az;rw [qME _ _ (by omega) (by omega),qME _ _ (by omega) (by omega),qME _ _ (by omega) (by omega)];unfold rA;cases oQ r.Ae r.Ar<;>cases oQ r.Ae r.Az<;>cases oQ r.Ar r.Az<;>rfl
theorem qUT (r:Aj) (h:Short r):(aC (kP r.Ae r.Ar) λa=>if (!(a))=true then some true else aC (kP r.Ae r.Az) λb=>if (!(b))=true then some true else aC (kP r.Ar r.Az) λc=>some (!(c)))=some (!rA r):=by
 have h1:=h.Ae;have h2:=h.over;have h3:=h.Az;rw [qDR _ _ (by omega) (by omega),qDR _ _ (by omega) (by omega),qDR _ _ (by omega) (by omega)];unfold rA;cases oQ r.Ae r.Ar<;>cases oQ r.Ae r.Az<;>cases oQ r.Ar r.Az<;>rfl
theorem zAN (l:List Aj) (p q:Aj->Bool):l.all (λr=>p r&&q r)=(l.all p&&l.all q):=by
 rw [Bool.eq_iff_iff];simp only [zQT,zQA];exact⟨λh=>⟨λx hx=>(h x hx).1,λx hx=>(h x hx).2⟩,λh x hx=>⟨h.1 x hx,h.2 x hx⟩⟩
theorem qUJ (t:Am) (h:TOk t):rC t=some (gI t):=by
 have hp:=h.Ae;have hr:=h.Ac;unfold rC;by_cases hl:qIH t=true
 ·have hs : t.Aa <= 24 := by unfold qIH at hl; simp at hl; omega
  have hc : (if (48 : Int) < (t.Ac.length : Int) then some true
   else if (32 : Int) < (t.Ae.length : Int) then some true
   else aC (fH t.Aa (25 : Int)) fun r5 => if (!(r5)) = true then some true else aC (fH t.Al (21 : Int)) fun r7 => some (!(r7))) = some false := by
   simp only [qAY,aA];unfold qIH at hl;simp only [decide_eq_true_eq] at hl;rw [if_neg (by omega),if_neg (by omega),if_neg (by unfold inB;simp;omega)];simp [inB];omega
  rw [hc];simp only [aA,qKO t (by omega)];by_cases hpb:qX t=true
  ·simp only [hpb];simp only [Bool.not_true,Bool.false_eq_true,if_false];rw [qTH t.Ac (nF t) 1 hr (kS t) (λr hm=>qML t r hs (h.each r hm))];rw [sH t.Ac (rQ t) 1 hr _ (λr hm=>qZE t r (by omega) (h.each r hm)),sH t.Ac rA 10 hr _ (λr hm=>qWV r (h.each r hm)),qTJ t hr];unfold gI;rw [zAN];simp only [hl,hpb];cases t.Ac.all (nF t)<;>cases t.Ac.all (rQ t)<;>cases t.Ac.all rA<;>cases qAA t.Ac<;>rfl
  rw [qFE hl (by simpa using hpb)];simp [hpb]
 rw [qOR (by simpa using hl)]
 have hc : (if (48 : Int) < (t.Ac.length : Int) then some true
  else if (32 : Int) < (t.Ae.length : Int) then some true
  else aC (fH t.Aa (25 : Int)) fun r5 => if (!(r5)) = true then some true else aC (fH t.Al (21 : Int)) fun r7 => some (!(r7))) = some true := by
  simp only [qAY,aA];unfold qIH at hl;simp only [decide_eq_true_eq] at hl
  grind [inB]
 rw [hc];rfl
theorem zAF (t:Am) (s:BA) (h:Cnt t.Ac):qG t s=some (gH (t.Ac.findIdx? λq=>decide (q.name=s))):=by
 unfold qG;rw [wQ t.Ac (λq=>decide (q.name=s)) (λi=>.inr (i:Int)) (.inl ()) h]
 ·cases t.Ac.findIdx? (λq=>decide (q.name=s))<;>rfl
 ·intro i e he;have hi:=(zQQ.1 he).1;simp only [kK hi,if_true,aR he];by_cases hx:e.name=s
  ·simp [hx]
  simp [hx,bD hi h]
 simp
theorem qSY (t : Am) (h : Cnt t.Ae) (e : t.As.length = t.Ae.length) (k : Unit -> Option Int) : eE (
    aW (fun x10 =>
     if x10 < (t.Ae.length : Int) then
      bC t.Ae x10 fun e13 =>
      aC (
       if e13 < (0 : Int) then
        some true
       else
        if (0 : Int) < x10 then
         aD (I64 (x10 - (1 : Int))) <|
         bC t.Ae (x10 - (1 : Int)) fun e22 =>
         if e13 <= e22 then
          some true
         else
          bC t.As x10 fun e24 =>
          if e24 < (0 : Int) then
           some true
          else
           bC t.As x10 fun e26 =>
           some (decide (t.Aa <= e26))
        else
         bC t.As x10 fun e18 =>
         if e18 < (0 : Int) then
          some true
         else
          bC t.As x10 fun e20 =>
          some (decide (t.Aa <= e20))) fun x14 =>
      if x14 = true then
       aY (
        aY (
         some (1 : Int)))
      else
       aD (I64 (x10 + (1 : Int))) <|
       some (.inl (x10 + (1 : Int)))
     else
      aY (
       some (.inl ()))) (0 : Int)) k = if yP t.Ae.length (vM t) = true then k () else some 1 := by
 rw [qQ t.Ae.length (λi=>!vM t i) (.inr 1) (.inl ()) h,mG]
 ·cases yP t.Ae.length (vM t)<;>rfl
 ·intro i hi;obtain⟨p,hp⟩:=oO hi;obtain⟨q,hq⟩:=oO (xs:=t.Ae) (i:=i - 1) (by omega);obtain⟨hm,hh⟩:=oO (xs:=t.As) (i:=i) (by omega);simp only [kK hi,if_true,aR hp,aR hh,aA];rw [qGI hp hq hh];by_cases h0:0 < i
  ·have e1 : ((i : Int) - 1) = ((i - 1 : Nat) : Int) := by omega
   have e2:I64 ((i - 1:Nat):Int):=by unfold I64;omega
   have e3:(0:Int) < (i:Int):=by omega
   simp only [e1,aB e2,aR hq,e3,if_true,mW,aA,aB (bD hi h),eV]
   grind
  have e3 : ¬ (0 : Int) < (i : Int) := by omega
  simp only [e3,if_false,mW,aA,aB (bD hi h),eV]
  grind
 simp
theorem qQN (t : Am) (h : t.Ac.length <= 2000000) (k : Unit -> Option Int) : eE (
    aW (fun x72 =>
     if x72 < (t.Ac.length : Int) then
      bC t.Ac x72 fun e75 =>
      aC (qG t e75.name) fun r76 =>
      if r76 = x72 then
       aD (I64 (x72 + (1 : Int))) <|
       some (.inl (x72 + (1 : Int)))
      else
       aY (
        aY (
         some (8 : Int)))
     else
      aY (
       some (.inl ()))) (0 : Int)) k = if qAA t.Ac = true then k () else some 8 := by
 rw [qQ t.Ac.length (λi=>!qCK t.Ac i) (.inr 8) (.inl ()) (by omega),mG]
 ·unfold qAA;cases yP t.Ac.length (qCK t.Ac)<;>rfl
 ·intro i hi;obtain⟨x,hx⟩:=oO hi;have hf:=zAE hx;simp only [kK hi,if_true,aR hx,zAF t _ (show Cnt t.Ac by unfold Cnt;omega),aA,aB (bD hi (by omega)),eV]
  cases hb:qCK t.Ac i with
  | true=>rw [hb] at hf;rw [if_pos (of_decide_eq_true hf)];simp
  | false=>rw [hb] at hf;rw [if_neg (of_decide_eq_false hf)];simp
 simp
theorem qMM (t:Am) (r:Aj) (ht:Cnt t.Ae) (h:Short r):(aC (oU t r) λa=>if (!(a))=true then some true else aC (hZ t r.Ae) λb=>if (!(b))=true then some true else aC (hZ t r.Ar) λc=>if (!(c))=true then some true else aC (hZ t r.Az) λd=>some (!(d)))=some (!(nF t r&&rQ t r)):=by
 have h1:=h.Ae;have h2:=h.over;have h3:=h.Az;rw [qVI t r h,vA t _ ht (by omega),vA t _ ht (by omega),vA t _ ht (by omega)];unfold rQ;cases nF t r<;>cases iE t r.Ae<;>cases iE t r.Ar<;>cases iE t r.Az<;>rfl
theorem qLS (t:Am) (h:TOk t):rI t=some (gI t):=by
 have hp:=h.Ae;have hr:=h.Ac;unfold rI;by_cases hl:qIH t=true
 ·rw [if_neg (by unfold qIH at hl; simp only [decide_eq_true_eq] at hl; simp only [Bool.or_eq_true, decide_eq_true_eq]; omega)];by_cases e:t.As.length=t.Ae.length
  ·rw [if_pos (by rw [e]), qSY t (by omega) e, sH t.Ac (fun r => nF t r && rQ t r) 1 hr _ (fun r hm => qMM t r (by omega) (h.each r hm)), sH t.Ac rA 10 hr _ (fun r hm => qUT r (h.each r hm)), qQN t hr];unfold gI;simp only [hl];have hpb:qX t=yP t.Ae.length (vM t):=by unfold qX;simp [e]
   rw [hpb];cases yP t.Ae.length (vM t)<;>cases t.Ac.all (λr=>nF t r&&rQ t r)<;>cases t.Ac.all rA<;>cases qAA t.Ac<;>rfl
  rw [if_neg (by omega),qFE hl (by unfold qX;simp [e])]
 rw [if_pos (by unfold qIH at hl;simp only [decide_eq_true_eq] at hl;simp only [Bool.or_eq_true,decide_eq_true_eq];omega),qOR (by simpa using hl)]
def ltS (x y:Ag):Bool:=decide (x.el < y.el)||(decide (x.el=y.el)&&decide (x.pos < y.pos))
theorem qEP {x y:Ag}:ltS x y=true↔x.el < y.el\/x.el=y.el/\x.pos < y.pos:=by simp [ltS]
theorem tQ (x:Ag):ltS x x=false:=by simp [ltS]
theorem qGT {x y z:Ag} (h1:ltS x y=true) (h2:ltS y z=true):ltS x z=true:=by rw [qEP] at *; omega
theorem qOF {x y:Ag} (h1:ltS x y=true) (h2:ltS y x=true):False:=by rw [qEP] at *; omega
theorem zDC {x y:Ag} (h1:x.el=y.el) (h2:x.pos=y.pos):x=y:=by
 obtain⟨a,b⟩:=x;obtain⟨c,d⟩:=y;simp_all
theorem qQL {x y:Ag} (h1:ltS x y=false) (h2:ltS y x=false):x=y:=by
 have h1':¬ (x.el < y.el\/x.el=y.el/\x.pos < y.pos):=λh=>by rw [<- qEP,h1] at h;cases h
 have h2':¬ (y.el < x.el\/y.el=x.el/\y.pos < x.pos):=λh=>by rw [<- qEP,h2] at h;cases h
 exact zDC (by omega) (by omega)
def qLD (x:Ag):List Ag->List Ag
 | []=>[x]
 | y :: r=>if ltS x y=true then x :: y :: r else if x=y then y :: r else y :: qLD x r
def fF:List Ag->List Ag
 | []=>[]
 | x :: r=>qLD x (fF r)
abbrev Asc (l:List Ag):Prop:=l.Pairwise (λa b=>ltS a b=true)
theorem insS_mem {s x:Ag}:∀ {l},s∈qLD x l↔s=x\/s∈l
 | []=>by simp [qLD]
 | y :: r=>by
  unfold qLD;split
  ·simp
  split
  ·rename_i e;subst e;simp
  simp only [zQB,insS_mem];grind
theorem ascS_mem {s:Ag}:∀ {l},s∈fF l↔s∈l
 | []=>by simp [fF]
 | x :: r=>by simp [fF,insS_mem,ascS_mem]
theorem qTT (x:Ag):∀ l,Asc l->Asc (qLD x l)
 | [],_=>by simp [qLD]
 | y :: r,h=>by
  have h':=List.pairwise_cons.1 h;unfold qLD;split
  ·rename_i hxy;refine List.pairwise_cons.2 ⟨λb hb=>?_,h⟩;rcases zQB.1 hb with rfl|hb
   ·exact hxy
   exact qGT hxy (h'.1 b hb)
  split
  ·exact h
  rename_i h1 h2;refine List.pairwise_cons.2 ⟨λb hb=>?_,qTT x r h'.2⟩;rcases insS_mem.1 hb with rfl|hb
  ·cases h3:ltS y b with
   | true=>rfl
   | false=>exact absurd (qQL (by simpa using h1) h3) h2
  exact h'.1 b hb
theorem qMA:∀ l,Asc (fF l)
 | []=>.nil
 | x :: r=>qTT x _ (qMA r)
theorem qLZ:∀ {l m:List Ag},Asc l->Asc m->(∀ s,s∈l↔s∈m)->l=m
 | [],[],_,_,_=>rfl
 | [],y :: m,_,_,h=>absurd ((h y).2 (List.mem_cons_self ..)) (by simp)
 | x :: l,[],_,_,h=>absurd ((h x).1 (List.mem_cons_self ..)) (by simp)
 | x :: l,y :: m,h1,h2,h=>by
  have h1':=List.pairwise_cons.1 h1;have h2':=List.pairwise_cons.1 h2
  have e:x=y:=by
   rcases zQB.1 ((h x).1 (List.mem_cons_self ..)) with e|hx
   ·exact e
   rcases zQB.1 ((h y).2 (List.mem_cons_self ..)) with e|hy
   ·exact e.symm
   exact (qOF (h2'.1 x hx) (h1'.1 y hy)).elim
  subst e
  have := qLZ h1'.2 h2'.2 fun s => ⟨fun hs => by
   rcases zQB.1 ((h s).1 (List.mem_cons_of_mem _ hs)) with e | h3
   ·subst e; have := h1'.1 s hs; rw [tQ] at this; cases this
   ·exact h3, fun hs => by
   rcases zQB.1 ((h s).2 (List.mem_cons_of_mem _ hs)) with e | h3
   ·subst e; have := h2'.1 s hs; rw [tQ] at this; cases this
   exact h3⟩
  rw [this]
theorem zGR {l m:List Ag} (h:Asc m) (hm:∀ s,s∈m↔s∈l):m=fF l:=qLZ h (qMA l) λs=>by rw [hm,ascS_mem]
theorem mE (l:List Ag):(fF l).length<=l.length:=by
 induction l with
 | nil=>simp [fF]
 | cons x r ih=>
  have:∀ m,(qLD x m).length<=m.length+1:=by
   intro m
   induction m with
   | nil=>simp [qLD]
   | cons y q ih=>unfold qLD;split<;>(try split)<;>simp<;>omega
  have h:=this (fF r);simp only [fF,List.length_cons];omega
theorem qQM (x y:Ag):ltM eK x y=ltS x y:=by
 rw [Bool.eq_iff_iff,qEP];simp only [ltM,sZ,Option.getD_some,sgn,decide_eq_true_eq];split<;>split<;>(try split)<;>(try split)<;>omega
def qC (L:List Ag):Nat->List Ag
 | 0=>[]
 | i+1=>match L[i]? with
  | none=>qC L i
  | some e=>if i=0\/¬ L[i - 1]?=some e then qC L i++[e] else qC L i
theorem qOO (L:List Ag):∀ i,(qC L i).length<=i
 | 0=>zQW _
 | i+1=>by
  have:=qOO L i;unfold qC;split
  ·omega
  split
  ·simp;omega
  omega
theorem qUG (L : List Ag) (hs : L.Pairwise (fun a b => ltS b a = false)) : ∀ i, i <= L.length -> Asc (qC L i) /\ ∀ s, s ∈ qC L i ↔ s ∈ L.take i
 | 0,_=>⟨.nil,λs=>by simp [qC]⟩
 | i+1,hi=>by
  obtain⟨h1,h2⟩:=qUG L hs i (by omega);have he:L[i]?=some L[i]:=by simp
  rw [List.pairwise_iff_getElem] at hs;have htake:L.take (i+1)=L.take i++[L[i]]:=by rw [List.take_add_one,he];rfl
  unfold qC;rw [he];simp only;split
  ·rename_i hc;refine⟨List.pairwise_append.2 ⟨h1,by simp,λa ha b hb=>?_⟩,λs=>by rw [htake,zQN,zQN,h2]⟩;simp only [List.mem_singleton] at hb;subst hb;rcases hc with h0|hc
   ·subst h0;simp [qC] at ha
   have hi0 : i ≠ 0 := fun e => by subst e; simp [qC] at ha
   obtain⟨j,hj,rfl⟩:=List.mem_take_iff_getElem.1 ((h2 a).1 ha);have e1:L[i - 1]?=some L[i - 1]:=by rw [zQR]
   have hne:L[i - 1]≠L[i]:=λe=>hc (by rw [e1,e])
   have hlt:ltS L[i - 1] L[i]=true:=by
    cases h3:ltS L[i - 1] L[i] with
    | true=>rfl
    | false=>exact absurd (qQL h3 (hs (i - 1) i (by omega) (by omega) (by omega))) hne
   by_cases hj':j=i - 1
   ·subst hj';exact hlt
   have h4 := hs j (i - 1) (by omega) (by omega) (by omega)
   cases h5:ltS L[j] L[i - 1] with
   | true=>exact qGT h5 hlt
   | false=>rw [qQL h5 h4];exact hlt
  rename_i hc;refine⟨h1,λs=>?_⟩;rw [htake,zQN,h2];have hi0:i≠0:=λe=>hc (.inl e)
  have e1:L[i - 1]?=some L[i]:=by
   cases h:decide (L[i - 1]?=some L[i]) with
   | true=>exact of_decide_eq_true h
   | false=>exact absurd (.inr (of_decide_eq_false h)) hc
  have hm:L[i]∈L.take i:=List.mem_take_iff_getElem.2 ⟨i - 1,by omega,by rw [zQR (by omega)] at e1;exact Option.some.inj e1⟩;refine⟨.inl,λh=>?_⟩;rcases h with h|h
  ·exact h
  simp only [List.mem_singleton] at h;subst h;exact hm
abbrev dU (r:Aj):List Ag:=r.Ae++r.Ar++r.Az
theorem qWL (xss:List (List Ag)) (h:xss.length<=1000/\xss.flatten.length<=1000000000):kY xss=some xss.flatten:=aB h
theorem qRX (r:Aj) (h:Short r) (ho:∀ s∈dU r,Ag.ok s):gC r=some (fF (dU r)):=by
 have hfl:[r.Ae,r.Ar,r.Az].flatten=dU r:=by simp [dU]
 have hlen:(dU r).length<=6000000:=by have:=h.Ae;have:=h.over;have:=h.Az;simp [dU];omega
 unfold gC;rw [qWL _ ⟨by simp,by rw [hfl];omega⟩,aA,hfl,aB (by omega)];generalize hL:uK eK (dU r)=L;have hLl:L.length=(dU r).length:=by rw [<- hL,xJ]
 have hmem:∀ s,s∈L↔s∈dU r:=λs=>by rw [<- hL];exact (xI _).mem_iff
 have hsort:L.Pairwise (λa b=>ltS b a=false):=by
  rw [<- hL];have:=xH pD (dU r);exact this.imp fun {a b} hab=>by rw [<- qQM];exact hab
 obtain⟨h1,h2⟩:=qUG L hsort L.length (zQW _);have hfin:qC L L.length=fF (dU r):=zGR h1 λs=>by rw [h2,List.take_length,hmem]
 rw [mR (b:=([]:List Ag)) (o:=fF (dU r)) L.length (qC L) rfl (by omega) (λi hi=>?_) (by dsimp only;rw [if_neg (by omega),hfin];rfl)]
 ·rfl
 have he : L[i]? = some L[i] := by simp
 have hg:(qC L i++[L[i]]).length<=1000000000:=by have:=qOO L i;simp;omega
 dsimp only;rw [if_pos (by omega),aR he]
 have hcond:(if (i:Int)=0 then some true else aD (I64 ((i:Int) - 1)) (bC L ((i:Int) - 1) λe17=>aD (Ag.ok L[i]/\Ag.ok e17) (some (!decide (L[i]=e17)))))=some (decide (i=0\/¬ L[i - 1]?=some L[i])):=by
  by_cases h0:i=0
  ·subst h0;simp
  have e1 : L[i - 1]? = some L[i - 1] := by rw [zQR]
  have e2:((i:Int) - 1)=((i - 1:Nat):Int):=by omega
  rw [if_neg (by omega),aB (by unfold I64;omega),e2,aR e1,aB ⟨ho _ ((hmem _).1 (List.getElem_mem _)),ho _ ((hmem _).1 (List.getElem_mem _))⟩,e1];have e3:(L[i]=L[i - 1])=(L[i - 1]=L[i]):=propext eq_comm;simp only [Option.some.injEq,h0,false_or,e3,decide_not]
 rw [hcond,aA];have hstep:qC L (i+1)=if i=0\/¬ L[i - 1]?=some L[i] then qC L i++[L[i]] else qC L i:=by rw [qC,he]
 by_cases hc:i=0\/¬ L[i - 1]?=some L[i]
 ·rw [if_pos (by simpa using hc),aB hg,aB (bD (n:=L.length) hi (by omega)),hstep,if_pos hc]
 rw [if_neg (by simpa using hc),aB (bD (n:=L.length) hi (by omega)),hstep,if_neg hc]
theorem zDS {D:List Ag} (h:Asc D) {i j:Nat} (hi:i < D.length) (hj:j < D.length):ltS D[i] D[j]=true↔i < j:=by
  rw [Asc,List.pairwise_iff_getElem] at h;constructor
  · intro hl
    rcases Nat.lt_trichotomy i j with h1|h1|h1
    · exact h1
    · subst h1;rw [tQ] at hl;cases hl
    exact (qOF hl (h j i hj hi h1)).elim
  exact λhl=>h i j hi hj hl
def yY (out:List Ag) (e:Ag):Bool:=out.isEmpty||(out.getLast?).any λl=>ltS l e
def kE (A out:List Ag):Nat->Int
  | 0=>-1
  | i+1=>match A[i]? with
    | none=>kE A out i
    | some e=>if yY out e=true/\(kE A out i < 0\/(A[(kE A out i).toNat]?).any (λb=>ltS e b)=true) then (i:Int) else kE A out i
theorem qHF (A out:List Ag):∀ i,i<=A.length->(kE A out i=-1/\∀ j,j < i->(A[j]?).any (yY out)=false)\/
    ∃ b:Nat,kE A out i=(b:Int)/\b < i/\∃ e,A[b]?=some e/\yY out e=true/\∀ j e',j < i->A[j]?=some e'->yY out e'=true->ltS e' e=false
  | 0,_=>.inl ⟨rfl,λj hj=>absurd hj (zQV j)⟩
  | i+1,hi=>by
    have he:A[i]?=some A[i]:=by simp
    have ih:=qHF A out i (by omega);unfold kE;rw [he];simp only;by_cases hc:yY out A[i]=true
    · rcases ih with ⟨h1,h2⟩|⟨b,h1,h2,e,h3,h4,h5⟩
      · rw [if_pos ⟨hc, .inl (by omega)⟩]
        refine .inr ⟨i,rfl,by omega,A[i],he,hc,λj e' hj hj' hc'=>?_⟩;rcases Nat.lt_or_ge j i with h|h
        · have:=h2 j h;rw [hj'] at this;simp [hc'] at this
        have : j = i := by omega
        subst this;rw [he] at hj';cases hj';exact tQ _
      rw [h1];have e1:A[((b:Int)).toNat]?=some e:=by simpa using h3
      rw [e1];by_cases hl:ltS A[i] e=true
      · rw [if_pos ⟨hc, .inr (by simpa using hl)⟩]
        refine .inr ⟨i,rfl,by omega,A[i],he,hc,λj e' hj hj' hc'=>?_⟩;rcases Nat.lt_or_ge j i with h|h
        · cases h6:ltS e' A[i] with
          | false=>rfl
          | true=>have h7:=h5 j e' h hj' hc';rw [qGT h6 hl] at h7;cases h7
        have : j = i := by omega
        subst this;rw [he] at hj';cases hj';exact tQ _
      rw [if_neg (by rintro ⟨_, h | h⟩; · omega
                     · exact hl (by simpa using h))]
      refine .inr ⟨b,rfl,by omega,e,h3,h4,λj e' hj hj' hc'=>?_⟩;rcases Nat.lt_or_ge j i with h|h
      · exact h5 j e' h hj' hc'
      have : j = i := by omega
      subst this;rw [he] at hj';cases hj';simpa using hl
    rw [if_neg (fun h => hc h.1)];rcases ih with ⟨h1,h2⟩|⟨b,h1,h2,e,h3,h4,h5⟩
    · refine .inl ⟨h1, fun j hj => ?_⟩
      rcases Nat.lt_or_ge j i with h|h
      · exact h2 j h
      have : j = i := by omega
      subst this;rw [he];simpa using hc
    refine .inr ⟨b, h1, by omega, e, h3, h4, fun j e' hj hj' hc' => ?_⟩;rcases Nat.lt_or_ge j i with h|h
    · exact h5 j e' h hj' hc'
    have : j = i := by omega
    subst this;rw [he] at hj';cases hj';exact absurd hc' hc
theorem qYP (A:List Ag) {k:Nat} (hk:k<=(fF A).length):
    (k=(fF A).length->kE A ((fF A).take k) A.length=-1)/\
    ∀ hlt:k < (fF A).length,∃ b:Nat,kE A ((fF A).take k) A.length=(b:Int)/\A[b]?=some (fF A)[k]:=by
  have hasc:=qMA A
  have hcand:∀ j (hj:j < (fF A).length),yY ((fF A).take k) (fF A)[j]=decide (k<=j):=by
    intro j hj;unfold yY;by_cases h0:k=0
    · subst h0;simp
    have hl:((fF A).take k).getLast?=some (fF A)[k - 1]:=by
      rw [List.getLast?_eq_getElem?,List.length_take,Nat.min_eq_left hk,List.getElem?_take_of_lt (by omega),zQR (by omega)]
    have he:((fF A).take k).isEmpty=false:=by
      cases h:(fF A).take k with
      | nil=>rw [h] at hl;cases hl
      | cons=>rfl
    rw [hl,he,Bool.eq_iff_iff];simp only [Bool.false_or,Option.any_some,zDS hasc (show k - 1 < _ by omega) hj,decide_eq_true_eq];omega
  have hin:∀ (j:Nat) (e:Ag),A[j]?=some e->∃ i,∃ hi:i < (fF A).length,e=(fF A)[i]:=by
    intro j e he;obtain⟨i,hi,h⟩:=List.mem_iff_getElem.1 (ascS_mem.2 (zQM he));exact⟨i,hi,h.symm⟩
  rcases qHF A ((fF A).take k) A.length (zQW _) with ⟨h1,h2⟩|⟨b,h1,h2,e,h3,h4,h5⟩
  · refine ⟨fun _ => h1, fun hlt => ?_⟩
    obtain⟨j,hj,h⟩:=List.mem_iff_getElem.1 (ascS_mem.1 (List.getElem_mem hlt));have:=h2 j hj;rw [zQR hj,h,Option.any_some,hcand k hlt] at this;simp at this
  obtain⟨i,hi,rfl⟩:=hin b e h3;rw [hcand i hi] at h4;have h4':=of_decide_eq_true h4;refine⟨λh=>by omega,λhlt=>⟨b,h1,?_⟩⟩;obtain⟨j,hj,h⟩:=List.mem_iff_getElem.1 (ascS_mem.1 (List.getElem_mem hlt));have h6:=h5 j (fF A)[k] hj (by rw [zQR hj,h]) (by rw [hcand k hlt];simp);have h7:¬ k < i:=λhc=>by rw [(zDS hasc hlt hi).2 hc] at h6;cases h6
  have:i=k:=by omega
  subst this;exact h3
theorem qXX (x y:Ag):jH x y=some (ltS x y):=rfl
theorem qXL (A out : List Ag) (hA : A.length <= 6000000) (ho : out.length <= 6000000) : aW (fun (found11, x12) =>
        if x12 < (A.length : Int) then
          bC A x12 fun e15 =>
          aC (
            if (out.length : Int) = (0 : Int) then
              if found11 < (0 : Int) then
                some true
              else
                bC A found11 fun e27 =>
                aC (jH e15 e27) fun r28 =>
                some r28
            else
              aD (I64 ((out.length : Int) - (1 : Int))) <|
              bC out ((out.length : Int) - (1 : Int)) fun e20 =>
              aC (jH e20 e15) fun r21 =>
              if r21 = true then
                if found11 < (0 : Int) then
                  some true
                else
                  bC A found11 fun e24 =>
                  aC (jH e15 e24) fun r25 =>
                  some r25
              else
                some false) fun x16 =>
          if x16 = true then
            aD (I64 (x12 + (1 : Int))) <|
            some (.inl (x12, (x12 + (1 : Int))))
          else
            aD (I64 (x12 + (1 : Int))) <|
            some (.inl (found11, (x12 + (1 : Int))))
        else
          aY (
            some found11)) ((-1 : Int), (0 : Int)) = some (kE A out A.length) := by
  refine lU (λi=>(kE A out i,(i:Int))) A.length rfl (by omega) (λi hi=>?_) (by dsimp only;rw [if_neg (by omega)];rfl);dsimp only;have he:A[i]?=some A[i]:=by simp
  have hstep:kE A out (i+1)=if yY out A[i]=true/\(kE A out i < 0\/(A[(kE A out i).toNat]?).any (λb=>ltS A[i] b)=true) then (i:Int) else kE A out i:=by rw [kE,he]
  have hinner:∀ f:Int,f=kE A out i->(if f < (0:Int) then some true else bC A f λe27=>aC (jH A[i] e27) λr28=>some r28)=some (decide (kE A out i < 0\/(A[(kE A out i).toNat]?).any (λb=>ltS A[i] b)=true)):=by
    rintro f rfl;rcases qHF A out i (by omega) with ⟨h1,_⟩|⟨b,h1,h2,e,h3,_,_⟩
    · rw [h1];simp
    rw [h1, if_neg (by omega), aR h3, qXX, aA];have h3':A[((b:Int)).toNat]?=some e:=by simpa using h3
    rw [h3']
    congr 1
    rw [Bool.eq_iff_iff,decide_eq_true_eq];simp only [Option.any_some];constructor
    · exact .inr
    rintro (h|h)
    · omega
    exact h
  have hcond : (if (out.length : Int) = (0 : Int) then
              (if kE A out i < (0 : Int) then some true else bC A (kE A out i) fun e27 => aC (jH A[i] e27) fun r28 => some r28)
            else
              aD (I64 ((out.length : Int) - (1 : Int))) <|
              bC out ((out.length : Int) - (1 : Int)) fun e20 =>
              aC (jH e20 A[i]) fun r21 =>
              if r21 = true then (if kE A out i < (0 : Int) then some true else bC A (kE A out i) fun e24 => aC (jH A[i] e24) fun r25 => some r25)
              else some false) = some (decide (yY out A[i] = true /\ (kE A out i < 0 \/ (A[(kE A out i).toNat]?).any (fun b => ltS A[i] b) = true))) := by
    rw [hinner _ rfl];by_cases h0:out=[]
    · subst h0;simp [yY]
    have hl:0 < out.length:=List.length_pos_iff.2 h0;have h1:out[out.length - 1]?=some (out[out.length - 1]):=by rw [zQR]
    have e2:((out.length:Int) - 1)=((out.length - 1:Nat):Int):=by omega
    rw [if_neg (by omega),aB (by unfold I64;omega),e2,aR h1,qXX,aA]
    have hcb:yY out A[i]=ltS out[out.length - 1] A[i]:=by
      unfold yY;rw [List.getLast?_eq_getElem?,h1,Option.any_some]
      cases out with
      | nil=>exact absurd rfl h0
      | cons=>rfl
    rw [hcb];cases ltS out[out.length - 1] A[i]<;>simp
  rw [if_pos (by omega),aR he,hcond,aA,hstep];split
  · rename_i h
    rw [if_pos (of_decide_eq_true h),aB (bD (n:=A.length) hi (by omega))];rfl
  rename_i h;rw [if_neg (λh'=>h (decide_eq_true h')),aB (bD (n:=A.length) hi (by omega))];rfl
theorem lR (r:Aj) (h:Short r):gG r=some (fF (dU r)):=by
  have hlen:(dU r).length<=6000000:=by have:=h.Ae;have:=h.over;have:=h.Az;simp [dU];omega
  have hl1:(r.Ae++r.Ar).length<=6000000:=by have:=h.Ae;have:=h.over;simp;omega
  have hl2:r.Ae.length<=6000000:=by have:=h.Ae;omega
  unfold gG;simp only [List.nil_append];rw [aB (by omega),aB (by omega),aB (show (dU r).length<=1000000000 by omega)];have hDl:=mE (dU r);refine lU (λk=>(fF (dU r)).take k) (fF (dU r)).length (by simp) (by omega) (λk hk=>?_) ?_
  · rw [qXL (dU r) _ hlen (by rw [List.length_take]; omega), aA]
    obtain⟨b,h1,h2⟩:=(qYP (dU r) (Nat.le_of_lt hk)).2 hk;rw [h1,if_neg (by omega),aR h2,aB (by rw [zQL,List.length_take];simp only [List.length_cons,List.length_nil];omega),List.take_add_one,zQR hk];rfl
  rw [qXL (dU r) _ hlen (by rw [List.length_take]; omega), aA, (qYP (dU r) (zQW _)).1 rfl, List.take_length];rfl
theorem oX {t:Am} (h:gI t=0):qIH t=true/\qX t=true/\(∀ r∈t.Ac,nF t r=true/\rQ t r=true)/\(∀ r∈t.Ac,rA r=true)/\qAA t.Ac=true:=by
 unfold gI at h;split at h
 ·cases h
 split at h
 ·cases h
 split at h
 ·cases h
 split at h
 ·cases h
 split at h
 ·cases h
 rename_i h1 h2 h3 h4 h5;simp only [Bool.not_eq_false] at h1 h2 h3 h4 h5;rw [zQT] at h3 h4;exact⟨h1,h2,λr hr=>by have:=h3 r hr;rwa [zQA] at this,h4,h5⟩
def SOk (t:Am):Prop:=∀ r∈t.Ac,∀ s∈dU r,Ag.ok s
def rAt (t:Am) (i:Nat):Aj:=(t.Ac[i]?).getD default
def xAt (s:Bo) (i:Nat):A7:=(s.Ac[i]?).getD default
structure FitsAt (t:Am) (s:Bo) (i:Nat):Prop where
 r:t.Ac[i]?=some (rAt t i)
 x:s.Ac[i]?=some (xAt s i)
 mem:rAt t i∈t.Ac
 fits:qKA (xAt s i) (rAt t i).Aa.length=true
def zGB (l:List Bool) (n:Int):Bool:=if n < 0 then true else if (l.length:Int)<=n then true else l.getD n.toNat false
end Go.Proofs.YtldaknhjmhlefaaGreatDoor
set_option linter.unusedVariables false
set_option linter.unusedSimpArgs false
set_option maxHeartbeats 400000
set_option maxRecDepth 100000
namespace Go.Proofs.YtldaknhjmhlefaaGreatDoor
open Go Go.TL
def rP (r:Aj):Nat:=r.path.length+r.Aa.length+r.Ah.length+r.Ae.length+r.Ar.length+r.Az.length
def qCW (t:Am):Bool:=t.Ac.all (λr=>decide (rP r<=200))&&decide (t.Ac.length<=100/\t.Ae.length<=100)
theorem qBC {t:Am} (h:qCW t=true):TOk t/\t.Ac.length<=100/\t.Ae.length<=100/\∀ r∈t.Ac,rP r<=200:=by
 unfold qCW at h;simp only [zQA,decide_eq_true_eq,zQT] at h;obtain⟨h1,h2⟩:=h;refine⟨⟨by omega,by omega,λr hr=>?_⟩,h2.1,h2.2,h1⟩;have:=h1 r hr;unfold rP at this;exact⟨by omega,by omega,by omega,by omega⟩
theorem qFN {t:Am} (h:t.Wf):SOk t:=λr hr s hs=>by
 have hw:=h.Ac.2 r hr;simp only [dU,zQN] at hs;rcases hs with (hs|hs)|hs
 ·have:=hw.Ae.2 s hs;exact⟨this.el,this.pos⟩
 ·have:=hw.Ar.2 s hs;exact⟨this.el,this.pos⟩
 have:=hw.Az.2 s hs;exact⟨this.el,this.pos⟩
theorem fC {β:Type} {f:Nat->List β} {c:Nat} (h:∀ i,(f i).length=c) (n:Nat):((List.range n).flatMap f).length=c * n:=by
 induction n with
 | zero=>simp
 | succ n ih=>rw [List.range_succ,List.flatMap_append,zQL,ih];simp [h,Nat.mul_add]
theorem cV {β ρ:Type} (f:Nat->List β) (pre:List β) (n:Nat) {F:Int×List β->Option ((Int×List β) ⊕ ρ)} {o:ρ} (hn:n<=9223372036854775807) (hF:∀ i,i < n->F ((i:Int),pre++(List.range i).flatMap f)=some (.inl ((i:Int)+1,(pre++(List.range i).flatMap f)++f i)))
  (he:F ((n:Int),pre++(List.range n).flatMap f)=some (.inr o)):aW F (0,pre)=some o:=by
 refine lU (λi=>((i:Int),pre++(List.range i).flatMap f)) n (by simp) hn (λi hi=>?_) he;rw [hF i hi,List.range_succ,List.flatMap_append,List.append_assoc];simp
def bS (t:Am) (el:Int):Nat:=(cZ t.Ae el).getD 0
abbrev occB (p:Bg) (n:Int):Bool:=zGB p.occupied n
def zDM (p:Bg) (i:Nat):Bool:=decide (p.claimed.length<=i)||p.claimed.getD i false
def zGG (p:Bg) (i:Nat):Bool:=decide ((i:Int)∈p.cancels)
section
variable {r:Aj} {p:Bg} {c q l m v:Bool} {x:A7}
end
structure Less (n:Nat) (x y:A7):Prop where
 fits:qKA y n=true
 idle:x.state=0->y.state=0
 rel:y.state≠0->x.rel<=y.rel
section view
variable {t:Am} {p:Bg} {r:Aj} {x:A7} {c q l m:Bool}
end view
structure FreeIn (t:Am) (p:Bg):Prop where
 occ:∀ n,0<=n->n < t.Aa->occB p n=false
 claimed:∀ i,i < t.Ac.length->zDM p i=false
 cancel:∀ i,i < t.Ac.length->zGG p i=true
def inN (t:Am):Nat:=2 * t.Aa.toNat+2 * t.Ae.length+4 * t.Ac.length
def qRL (r:Aj):Nat:=5+r.Aa.length
def dR (t:Am) (i:Nat):Nat:=inN t+t.Ae.length+((t.Ac.take i).map qRL).sum
def nN (t:Am) (i:Nat):List Int:=(List.range i).map λi=>(dR t i:Int)
def kX (t:Am):Nat:=dR t t.Ac.length
def mP (t:Am):Nat:=kX t+5 * t.Ac.length
structure COk (t:Am):Prop where
 ok:TOk t
 nr:t.Ac.length<=100
 np:t.Ae.length<=100
 sum:∀ r∈t.Ac,rP r<=200
 chk:gI t=0
theorem COk.lim {t:Am} (h:COk t):t.Ac.length<=48/\t.Ae.length<=32/\0<=t.Aa/\t.Aa<=24/\0<=t.Al/\t.Al<=20:=of_decide_eq_true (oX h.chk).1
theorem COk.secs {t:Am} (h:COk t) {r:Aj} (hr:r∈t.Ac):0 < r.Aa.length/\r.Aa.length<=200:=by
 have h1:=((oX h.chk).2.2.1 r hr).1;unfold nF at h1;simp only [zQA,decide_eq_true_eq] at h1;have h2:=h.sum r hr;unfold rP at h2;exact⟨h1.1.1.1.2,by omega⟩
theorem yO (t:Am):dR t 0=inN t+t.Ae.length:=by unfold dR;simp
theorem tW {t:Am} {i:Nat} {r:Aj} (hr:t.Ac[i]?=some r):dR t (i+1)=dR t i+qRL r:=by
 unfold dR;rw [List.take_add_one,hr];simp [Nat.add_assoc]
theorem qHV (t:Am) (i:Nat):nN t (i+1)=nN t i++[(dR t i:Int)]:=by
 unfold nN;rw [List.range_succ];simp
theorem qLW (t:Am) (i:Nat):(nN t i).length=i:=by unfold nN;simp
theorem qBT {t:Am} {n i:Nat} (h:i < n):(nN t n)[i]?=some (dR t i:Int):=by unfold nN;simp [h]
theorem zEJ {l:List Aj} (h:∀ r∈l,rP r<=200):(l.map qRL).sum<=205 * l.length:=by
 induction l with
 | nil=>simp
 | cons r l ih=>
  have h1:=h r (by simp);have h2:=ih (λr hr=>h r (by simp [hr]));simp only [List.map_cons,List.sum_cons,List.length_cons];unfold rP at h1;have h3:qRL r=5+r.Aa.length:=rfl;omega
theorem COk.base {t:Am} (h:COk t) (i:Nat):dR t i<=30000:=by
 have h1:=zEJ (l:=t.Ac.take i) (λr hr=>h.sum r (List.mem_of_mem_take hr));have h2:(t.Ac.take i).length<=48:=by rw [List.length_take];have:=h.lim;omega
 have h3:=h.lim;unfold dR inN;omega
theorem qWR {t:Am}:∀ (i n:Nat),i<=n->dR t i<=dR t n:=by
 intro i n h
 induction n with
 | zero=>rw [show i=0 by omega];exact zQW _
 | succ n ih=>
  rcases Nat.lt_or_ge n i with h1|h1
  ·rw [show i=n+1 by omega];exact zQW _
  refine Nat.le_trans (ih h1) ?_
  cases e:t.Ac[n]? with
  | some r=>rw [tW e];omega
  | none=>
   have:=List.getElem?_eq_none_iff.1 e;unfold dR;rw [List.take_of_length_le (by omega),List.take_of_length_le (by omega)];exact zQW _
abbrev noT:Am:=⟨[],[],[],0,0⟩
abbrev qNI (t:Am):Ax:=⟨t,(inN t:Int),nN t t.Ac.length,(kX t:Int),(mP t:Int)⟩
theorem qZT {t:Am} (h:TOk t) (hs:qCW t=true):mD t=some (if gI t=0 then if 2000 < mP t then (⟨noT,0,[],0,0⟩,2) else (qNI t,0) else (⟨noT,0,[],0,0⟩,gI t)):=by
 unfold mD;rw [qUJ t h,aA];by_cases hz:gI t=0
 ·obtain⟨hT,h1,h2,h3⟩:=qBC hs;have hC:COk t:=⟨h,h1,h2,h3,hz⟩;rw [if_pos hz,if_pos hz];have hlm:=hC.lim;have hsn:t.Aa=((t.Aa.toNat:Nat):Int):=by omega
  have hin:((((2:Int) * t.Aa)+((2:Int) * (t.Ae.length:Int)))+((4:Int) * (t.Ac.length:Int)))=(inN t:Int):=by unfold inN;omega
  rw [aB (by unfold I64;omega),aB (by unfold I64;omega),aB (by unfold I64;omega),aB (by unfold I64;omega),aB (by unfold I64;omega),aB (by unfold I64;omega),hin];have hb:=hC.base;rw [mR (b:=(((inN t:Int)+(t.Ae.length:Int)),([]:List Int))) t.Ac.length (λi=>((dR t i:Int),nN t i)) (o:=((kX t:Int),nN t t.Ac.length)) (by rw [yO];simp [nN]) (by omega) (λi hi=>?_) (by dsimp only;rw [if_neg (by omega)];rfl),aA]
  ·dsimp only;have:=hb t.Ac.length;have he:kX t=dR t t.Ac.length:=rfl;rw [aB (by unfold I64;omega),aB (by unfold I64;omega)];have ha:(kX t:Int)+(5:Int) * (t.Ac.length:Int)=(mP t:Int):=by unfold mP;omega
   rw [ha];by_cases hl:2000 < mP t
   ·rw [if_pos (by omega),if_pos hl]
   rw [if_neg (by omega),if_neg hl]
  dsimp only;have hr:=zQR hi;have hsec:=hC.secs (List.getElem_mem hi);have:=hb i;rw [if_pos (by omega),aB (by rw [zQL,qLW];simp;omega)];unfold cB;dsimp only;rw [aR hr,aB (by unfold I64;omega),aA,aB (by unfold I64;omega),aB (by unfold I64;omega),aB (by unfold I64;omega),aB (bD hi (by omega)),tW hr,qHV];unfold qRL;rw [show ((dR t i:Int)+((4:Int)+((t.Ac[i].Aa.length:Int) - 1)+2))=((dR t i+(5+t.Ac[i].Aa.length):Nat):Int) by omega]
 rw [if_neg hz,if_neg hz]
theorem wM {t:Am} (h:COk t):iP t=some ⟨2 * t.Aa,2 * t.Aa+2 * (t.Ae.length:Int),(inN t:Int),(kX t:Int),(mP t:Int),nN t t.Ac.length⟩:=by
 unfold iP;have hlm:=h.lim;have hin:((((2:Int) * t.Aa)+((2:Int) * (t.Ae.length:Int)))+((4:Int) * (t.Ac.length:Int)))=(inN t:Int):=by unfold inN;omega
 rw [aB (by unfold I64;omega),aB (by unfold I64;omega),aB (by unfold I64;omega),aB (by unfold I64;omega),aB (by unfold I64;omega),aB (by unfold I64;omega),hin];have hb:=h.base;rw [lU (λi=>((dR t i:Int),((i:Int),nN t i))) (o:=((kX t:Int),nN t t.Ac.length)) t.Ac.length (by rw [yO];simp [nN]) (by omega) (λi hi=>?_) (by dsimp only;rw [if_neg (by omega)];rfl),aA]
 ·dsimp only;have:=hb t.Ac.length;have he:kX t=dR t t.Ac.length:=rfl;rw [aB (by unfold I64;omega),aB (by unfold I64;omega)];have ha:(kX t:Int)+(5:Int) * (t.Ac.length:Int)=(mP t:Int):=by unfold mP;omega
  rw [ha]
 dsimp only;have hr:=zQR hi;have hsec:=h.secs (List.getElem_mem hi);have:=hb i;have hm:max (0:Int) ((t.Ac[i].Aa.length:Int) - 1)=(t.Ac[i].Aa.length:Int) - 1:=by omega
 rw [if_pos (by omega),aB (by rw [zQL,qLW];simp;omega),aB (by unfold I64;omega),aR hr,aB (by unfold I64;omega),hm,aB (by unfold I64;omega),aB (bD hi (by omega)),tW hr,qHV];unfold qRL;rw [show ((dR t i:Int)+6+((t.Ac[i].Aa.length:Int) - 1))=((dR t i+(5+t.Ac[i].Aa.length):Nat):Int) by omega];rfl
theorem yH (t:Am):inN t+t.Ae.length<=kX t/\kX t<=mP t:=by
 unfold mP kX dR;omega
def bB (t:Am) (i:Nat):Nat:=match t.Ac[i]? with|some r=>r.Aa.length - 1|none=>0
theorem qKW {β:Type} (f:Nat->β) (i:Nat):(List.range (i+1)).map f=(List.range i).map f++[f i]:=by rw [List.range_succ];simp
abbrev vE (x:Int):Ad:=⟨3,x,[]⟩
abbrev orE (l:List Ad):Ad:=⟨6,0,l⟩
abbrev fG (l:List Ad):Ad:=⟨5,0,l⟩
abbrev eY (e:Ad):Ad:=⟨4,0,[e]⟩
abbrev bld (t:Am) (b:List At):Au:=⟨qNI t,b⟩
def vV (t:Am) (i:Nat):Int:=2 * t.Aa+2 * (t.Ae.length:Int)+4 * (i:Int)
def oZ (t:Am) (i:Nat):Int:=(kX t:Int)+5 * (i:Int)
abbrev kZ (t:Am) (i:Nat) (k:Int):Ad:=vE ((dR t i:Int)+(4+k))
abbrev fB (s:Int):Ad:=vE (2 * s)
variable {t:Am} {b:List At} {i:Nat}
theorem qAR (hC:COk t) (hi:i < t.Ac.length) {k:Int} (h0:0<=k) (h1:k<=1000):dM (qNI t) (i:Int) k=some ((dR t i:Int)+k):=by
 have:=hC.base i;unfold dM;dsimp only;rw [aR (qBT hi),aB (by unfold I64;omega)]
theorem rV (hC:COk t) (hi:i < t.Ac.length):cB (qNI t) (i:Int)=some (bB t i:Int)/\bB t i<=200:=by
 have hr:=zQR hi;have hsec:=hC.secs (List.getElem_mem hi);have hln:bB t i=t.Ac[i].Aa.length - 1:=by unfold bB;rw [hr]
 refine⟨?_,by omega⟩;unfold cB;dsimp only;rw [aR hr,aB (by unfold I64;omega),hln,show ((t.Ac[i].Aa.length:Int) - 1)=((t.Ac[i].Aa.length - 1:Nat):Int) by omega]
theorem pW (hC:COk t) (hi:i < t.Ac.length) {k:Int} (h0:0<=k) (h1:k<=1000):cC (bld t b) (i:Int) k=some (vE ((dR t i:Int)+k)):=by
 unfold cC;dsimp only;rw [qAR hC hi h0 h1,aA];rfl
theorem qLX (hC:COk t) (hi:i < t.Ac.length) {k:Int} (h0:0<=k) (h1:k<=900):dP (bld t b) (i:Int) k=some (kZ t i k):=by
 unfold dP;dsimp only;rw [aB (by unfold I64;omega),qAR hC hi (by omega) (by omega),aA];rfl
theorem qLY (hC:COk t) (hi:i < t.Ac.length) {k:Int} (h0:0<=k) (h1:k<=1000):cH (bld t b) (i:Int) k=some (vE (vV t i+k)):=by
 have hlm:=hC.lim;unfold cH jB vV;dsimp only;rw [aB (by unfold I64;omega),aB (by unfold I64;omega),aB (by unfold I64;omega),aB (by unfold I64;omega),aB (by unfold I64;omega),aB (by unfold I64;omega),aA];rfl
theorem zHT {n:Ax} {s k:Int} (h0:0<=s) (h1:s<=1000) (hk:0<=k) (hk1:k<=10):fO n s k=some (2 * s+k):=by
 unfold fO;rw [aB (by unfold I64;omega),aB (by unfold I64;omega)]
theorem tX {B:Au} {s:Int} (h0:0<=s) (h1:s<=1000):cO B s=some (fB s):=by
 unfold cO;rw [zHT h0 h1 (by omega) (by omega),aA,Int.add_zero];rfl
theorem sB (hC:COk t) (hi:i < t.Ac.length) {k:Int} (h0:0<=k) (h1:k<=10):bI (qNI t) (i:Int) k=some (oZ t i+k):=by
 have hlm:=hC.lim;have:kX t<=30000:=hC.base t.Ac.length;unfold bI oZ;dsimp only;rw [aB (by unfold I64;omega),aB (by unfold I64;omega),aB (by unfold I64;omega)]
theorem qWT (hC:COk t) (hi:i < t.Ac.length):fR (qNI t) (i:Int)=some ((dR t i:Int)+(4+(bB t i:Int))):=by
 have hl:=(rV hC hi).2;unfold fR;rw [(rV hC hi).1,aA,aB (by unfold I64;omega),qAR hC hi (by omega) (by omega),aA]
theorem qYQ (hC:COk t) (hi:i < t.Ac.length):gA (qNI t) (i:Int)=some ((dR t i:Int)+(4+(bB t i:Int))+1):=by
 have hl:=(rV hC hi).2;have:=hC.base i;unfold gA;rw [qWT hC hi,aA,aB (by unfold I64;omega)]
theorem COk.sec_in (hC:COk t) {r:Aj} (hr:r∈t.Ac) {s:Int} (hs:s∈r.Aa++r.Ah):0<=s/\s < t.Aa:=by
 have h1:=((oX hC.chk).2.2.1 r hr).1;unfold nF at h1;simp only [zQA] at h1;have h2:=h1.1.1.2;unfold qHL at h2;rw [allB_iff] at h2;obtain⟨j,hj⟩:=List.getElem?_of_mem hs;have h3:=h2 j (zQQ.1 hj).1;rw [xM hj] at h3;unfold inB at h3;simp only [zQA,decide_eq_true_eq] at h3;exact h3.1
theorem fV {α β ρ:Type} (l:List α) (f:Nat->α->β) (pre:List β) {F:Int×List β->Option ((Int×List β) ⊕ ρ)} {o:ρ} (hn:l.length<=9223372036854775807) (hF:∀ (i:Nat) (e:α) (B:List β),l[i]?=some e->B.length=pre.length+i->F ((i:Int),B)=some (.inl ((i:Int)+1,B++[f i e])))
  (he:F ((l.length:Int),pre++l.mapIdx f)=some (.inr o)):aW F (0,pre)=some o:=by
 refine mR l.length (λi=>pre++(l.mapIdx f).take i) (by simp) hn (λi hi=>?_) (by rw [List.take_of_length_le (by simp)];exact he);have hx:=zQR hi;rw [hF i l[i] _ hx (by simp;omega),List.append_assoc]
 congr 4
 rw [List.take_add_one];simp [List.getElem?_mapIdx,hx]
def qCR (t:Am) (i:Nat) (r:Aj):Ad:=fG (r.Aa.mapIdx λx s=>if x < bB t i then orE [kZ t i (x:Int),fB s] else fB s)
theorem qOU (hC:COk t) {r:Aj} (hr:t.Ac[i]?=some r):fK (bld t b) (i:Int)=some (qCR t i r):=by
 have hi:=(zQQ.1 hr).1;have hm:=zQM hr;have hlm:=hC.lim;have hsec:=hC.secs hm;have hl:=rV hC hi;unfold fK;dsimp only;rw [aR hr,fV r.Aa (λx s=>if x < bB t i then orE [kZ t i (x:Int),fB s] else fB s) [] (by omega) (λx s B hx hB=>?_) (by dsimp only;rw [if_neg (by omega)];rfl),aA]
 ·rfl
 have hx':=(zQQ.1 hx).1;have hs:=hC.sec_in hm (List.mem_append_left _ (zQM hx));simp only [List.length_nil,Nat.zero_add] at hB;dsimp only;rw [if_pos (by omega),aR hx,hl.1,aA];by_cases hlt:x < bB t i
 ·rw [if_pos (by omega),qLX hC hi (by omega) (by omega),aA,tX hs.1 (by omega),aA,if_pos hlt,show eS ([kZ t i (x:Int),fB s])=some (orE [kZ t i (x:Int),fB s]) from rfl,aA,aB (by simp;omega),aB (bD hx' (by omega))]
 rw [if_neg (by omega),tX hs.1 (by omega),aA,if_neg hlt,aB (by simp;omega),aB (bD hx' (by omega))]
def atE (t:Am) (i:Nat):Ad:=if bB t i=0 then fG [] else kZ t i ((bB t i:Int) - 1)
theorem b_at (hC:COk t) (hi:i < t.Ac.length):gQ (bld t b) (i:Int)=some (atE t i):=by
 have hl:=rV hC hi;unfold gQ atE;rw [hl.1,aA];by_cases h0:bB t i=0
 ·rw [if_pos (by omega),if_pos h0];rfl
 rw [if_neg (by omega),if_neg h0,aA,aB (by unfold I64;omega),qLX hC hi (by omega) (by omega),aA]
def wV (t:Am) (i:Nat) (r:Aj):Int:=r.Aa.getD (bB t i) 0
theorem qES (hC:COk t) {r:Aj} (hr:t.Ac[i]?=some r):r.Aa[bB t i]?=some (wV t i r)/\0<=wV t i r/\wV t i r < t.Aa:=by
 have hm:=zQM hr;have hsec:=hC.secs hm;have hln:bB t i=r.Aa.length - 1:=by unfold bB;rw [hr]
 have h1:r.Aa[bB t i]?=some (wV t i r):=by
  unfold wV;rw [zQD,zQR (by omega)];rfl
 exact⟨h1,hC.sec_in hm (List.mem_append_left _ (zQM h1))⟩
def qDW (t : Am) (i : Nat) (r : Aj) : List At := [⟨2, (dR t i : Int) + (4 + (bB t i : Int)), 12, fG [vE ((dR t i : Int) + 3), vE (vV t i + 0), qCR t i r]⟩,
 ⟨2, (dR t i : Int) + (4 + (bB t i : Int)) + 1, 4, fG [vE ((dR t i : Int) + 2), vE (vV t i + 0), atE t i, eY (fB (wV t i r))]⟩]
theorem zDP (hC:COk t) {r:Aj} (hr:t.Ac[i]?=some r) (hb:b.length<=100000):iT (bld t b) (i:Int)=some (bld t (b++qDW t i r)):=by
 have hi:=(zQQ.1 hr).1;have hlm:=hC.lim;have hl:=rV hC hi;have hs:=qES hC hr;unfold iT;dsimp only;rw [aR hr,qWT hC hi,aA,pW hC hi (by omega) (by omega),aA,qLY hC hi (by omega) (by omega),aA,qOU hC hr,aA];rw [show dL [vE ((dR t i:Int)+3),vE (vV t i+0),qCR t i r]=some (fG [vE ((dR t i:Int)+3),vE (vV t i+0),qCR t i r]) from rfl,aA,qYQ hC hi,aA];rw [pW hC hi (by omega) (by omega),aA,aA,b_at hC hi,aA,hl.1,aA,aR hs.1,tX hs.2.1 (by omega),aA];rw [show ∀ e,dV e=some (eY e) from λ_=>rfl,aA,show ∀ l,dL l=some (fG l) from λ_=>rfl,aA,aB (by simp;omega)];rfl
theorem COk.sok (hC:COk t) (ht:t.Wf) {r:Aj} (hr:r∈t.Ac):gC r=some (fF (dU r)):=qRX r (hC.ok.each r hr) (qFN ht r hr)
theorem fQ {α β:Type} (f:α->β) (l:List α):l.mapIdx (λ_ s=>f s)=l.map f:=by
 apply List.ext_getElem?;intro n;simp [List.getElem?_mapIdx]
def mA (t:Am) (el:Int):Int:=gH (cZ t.Ae el)
def qNE (t:Am) (x:Ag):Ad:=vE (2 * t.Aa+2 * mA t x.el+if x.pos=2 then 1 else 0)
def tM (t:Am) (r:Aj):Ad:=fG ((r.Aa++r.Ah).map fB++(fF (dU r)).map (qNE t))
theorem COk.set_in (hC:COk t) {r:Aj} (hr:r∈t.Ac) {x:Ag} (hx:x∈fF (dU r)):0<=mA t x.el/\mA t x.el < (t.Ae.length:Int)/\1<=x.pos/\x.pos<=2:=by
 have hx:=ascS_mem.1 hx;have h1:=((oX hC.chk).2.2.1 r hr).2;unfold rQ at h1;simp only [zQA] at h1
 have key:∀ l:List Ag,iE t l=true->x∈l->0<=mA t x.el/\mA t x.el < (t.Ae.length:Int)/\1<=x.pos/\x.pos<=2:=by
  intro l hl hm;obtain⟨j,hj⟩:=List.getElem?_of_mem hm;have hjl:=(zQQ.1 hj).1;unfold iE at hl;rw [allB_iff] at hl;have h3:=hl j hjl;rw [qJV hj (zQR (by omega))] at h3;have h4:=of_decide_eq_true h3;have h5:=h4.1;obtain⟨k,hk⟩:=Option.isSome_iff_exists.1 h5;obtain⟨_,_,_,hkl⟩:=pO (l:=t.Ae) hk;unfold mA;rw [hk];exact⟨by simp [gH],by simp only [gH];omega,h4.2.1,h4.2.2.1⟩
 simp only [zQN] at hx;rcases hx with (hx|hx)|hx
 ·exact key _ h1.1.1 hx
 ·exact key _ h1.1.2 hx
 exact key _ h1.2 hx
theorem qUO (hC:COk t) (ht:t.Wf) {r:Aj} (hr:t.Ac[i]?=some r):fS (bld t b) (i:Int)=some (tM t r):=by
 have hi:=(zQQ.1 hr).1;have hm:=zQM hr;have hlm:=hC.lim;have hsum:=hC.sum r hm;unfold rP at hsum;have hal:=mE (dU r);have hal2:(dU r).length<=200:=by simp only [dU,zQL];omega
 unfold fS;dsimp only;rw [aR hr,qBO _ ⟨by simp,by simp;omega⟩,aA];have hfl:[r.Aa,r.Ah].flatten=r.Aa++r.Ah:=by simp
 have hcl:(r.Aa++r.Ah).length<=200:=by rw [zQL];omega
 rw [hfl,fV (r.Aa++r.Ah) (λ_ s=>fB s) [] (by omega) (λx s B hx hB=>?_) (by dsimp only;rw [if_neg (by omega)];rfl),aA]
 ·rw [hC.sok ht hm, aA, fV (fF (dU r)) (fun _ s => qNE t s) _ (by omega) (fun x s B hx hB => ?_) (by dsimp only; rw [if_neg (by omega)]; rfl), aA]
  ·unfold tM;rw [fQ,fQ,List.nil_append];rfl
  have hx':=(zQQ.1 hx).1;have hsi:=hC.set_in hm (zQM hx);simp only [List.nil_append,List.length_mapIdx] at hB;dsimp only;rw [if_pos (by omega),aR hx,qLC,aA,oR t _ (by unfold Cnt;omega),aA];unfold jP;dsimp only;have hid:gH (cZ t.Ae s.el)=mA t s.el:=rfl;have hk:(if s.pos=2 then (1:Int) else 0)=0\/(if s.pos=2 then (1:Int) else 0)=1:=by split<;>simp
  rw [hid,aB (by unfold I64;omega),aB (by unfold I64;omega),aB (by unfold I64;omega),aB (by unfold I64;omega),aA,show ∀ x,dD x=some (vE x) from λ_=>rfl,aA,aB (by simp;omega),aB (bD hx' (by omega))];rfl
 have hx':=(zQQ.1 hx).1;have hs:=hC.sec_in hm (zQM hx);simp only [List.length_nil,Nat.zero_add] at hB;dsimp only;rw [if_pos (by omega),aR hx,tX hs.1 (by omega),aA,aB (by simp;omega),aB (bD hx' (by omega))]
variable {t:Am} {b:List At} {i:Nat}
theorem qHU (l:List Ad):dL l=some (fG l):=rfl
theorem qIL (l:List Ad):eS l=some (orE l):=rfl
theorem qFI (e:Ad):dV e=some (eY e):=rfl
theorem sA (x:Int):dD x=some (vE x):=rfl
theorem qAN {x:Int} {e:Ad} (hb:b.length<=100000):dG (bld t b) x e=some (bld t (b++[⟨1,x,0,e⟩])):=by
 unfold dG;dsimp only;rw [aB (by simp;omega)]
def curE (t:Am) (i:Nat) (r:Aj):Ad:=orE (r.Aa.mapIdx λx s=>fG (([fB s]++if 0 < x then [kZ t i ((x:Int) - 1)] else [])++if x < bB t i then [eY (kZ t i (x:Int))] else []))
theorem zAK (hC:COk t) {r:Aj} (hr:t.Ac[i]?=some r):gB (bld t b) (i:Int)=some (curE t i r):=by
 have hi:=(zQQ.1 hr).1;have hm:=zQM hr;have hlm:=hC.lim;have hsec:=hC.secs hm;have hl:=rV hC hi;unfold gB;dsimp only;rw [aR hr,fV r.Aa (λx s=>fG (([fB s]++if 0 < x then [kZ t i ((x:Int) - 1)] else [])++if x < bB t i then [eY (kZ t i (x:Int))] else [])) [] (by omega) (λx s B hx hB=>?_) (by dsimp only;rw [if_neg (by omega)];rfl),aA]
 ·rfl
 have hx':=(zQQ.1 hx).1;have hs:=hC.sec_in hm (List.mem_append_left _ (zQM hx));simp only [List.length_nil,Nat.zero_add] at hB;dsimp only;rw [if_pos (by omega),aR hx,tX hs.1 (by omega),aA]
 have e1:(if (0:Int) < (x:Int) then aD (I64 ((x:Int) - 1)) (aC (dP (bld t b) (i:Int) ((x:Int) - 1)) λr17=>aD (([fB s]++[r17]).length<=1000000000) (some ([fB s]++[r17]))) else some [fB s])=some ([fB s]++if 0 < x then [kZ t i ((x:Int) - 1)] else []):=by
  by_cases h0:0 < x
  ·rw [if_pos (by omega),aB (by unfold I64;omega),qLX hC hi (by omega) (by omega),aA,aB (by simp),if_pos h0]
  rw [if_neg (by omega),if_neg h0,List.append_nil]
 rw [e1,aA];have hl0:([fB s]++if 0 < x then [kZ t i ((x:Int) - 1)] else []).length<=2:=by split<;>simp
 generalize ([fB s]++if 0 < x then [kZ t i ((x:Int) - 1)] else [])=L at hl0;rw [hl.1,aA]
 have e2:(if (x:Int) < (bB t i:Int) then aC (dP (bld t b) (i:Int) (x:Int)) λr23=>aC (dV r23) λr24=>aD ((L++[r24]).length<=1000000000) (some (L++[r24])) else some L)=some (L++if x < bB t i then [eY (kZ t i (x:Int))] else []):=by
  by_cases h0:x < bB t i
  ·rw [if_pos (by omega),qLX hC hi (by omega) (by omega),aA,qFI,aA,aB (by simp;omega),if_pos h0]
  rw [if_neg (by omega),if_neg h0,List.append_nil]
 rw [e2,aA,qHU,aA,aB (by simp;omega),aB (bD hx' (by omega))]
def qIZ (t:Am) (i:Nat) (r:Aj):Ad:=fG [orE [vE ((dR t i:Int)+0),vE ((dR t i:Int)+1)],eY (vE (vV t i+3)),tM t r]
theorem qUP (hC:COk t) (ht:t.Wf) {r:Aj} (hr:t.Ac[i]?=some r):gP (bld t b) (i:Int)=some (qIZ t i r):=by
 have hi:=(zQQ.1 hr).1;unfold gP;rw [pW hC hi (by omega) (by omega),aA,pW hC hi (by omega) (by omega),aA,qIL,aA,qLY hC hi (by omega) (by omega),aA,qFI,aA,qUO hC ht hr,aA,qHU,aA];rfl
theorem COk.appr (hC:COk t) {r:Aj} (hr:r∈t.Ac):0<=r.A4/\r.A4 < t.Aa:=by
 have h1:=((oX hC.chk).2.2.1 r hr).1;unfold nF inB at h1;simp only [zQA,decide_eq_true_eq] at h1;exact h1.1.2
def pS (r:Aj):Int:=r.Aa.getD 0 0
theorem qUB (hC:COk t) {r:Aj} (hr:r∈t.Ac):r.Aa[0]?=some (pS r)/\0<=pS r/\pS r < t.Aa:=by
 have hsec:=hC.secs hr
 have h1:r.Aa[0]?=some (pS r):=by
  unfold pS;rw [zQD,zQR (by omega)];rfl
 exact⟨h1,hC.sec_in hr (List.mem_append_left _ (zQM h1))⟩
abbrev stE (t:Am) (i:Nat) (k:Int):Ad:=vE ((dR t i:Int)+k)
abbrev asE (t:Am) (i:Nat) (k:Int):Ad:=vE (vV t i+k)
abbrev auE (t:Am) (i:Nat) (k:Int):Ad:=vE (oZ t i+k)
def waitE (t:Am) (i:Nat):Ad:=vE ((dR t i:Int)+(4+(bB t i:Int)))
def standE (t:Am) (i:Nat):Ad:=vE ((dR t i:Int)+(4+(bB t i:Int))+1)
def zHN (t:Am) (i:Nat) (r:Aj):Ad:=fG [stE t i 0,eY (asE t i 3),eY (tM t r)]
def useE (t:Am) (i:Nat) (r:Aj):Ad:=orE [fG [stE t i 1,eY (fB (pS r))],fG [stE t i 2,orE [eY (asE t i 0),fG [eY (fG [asE t i 3,qCR t i r]),eY (fG [atE t i,fB (wV t i r)]),eY (standE t i)]]],fG [stE t i 3,eY (curE t i r)]]
def holdE (t:Am) (i:Nat) (r:Aj):Ad:=orE [fG [stE t i 1,fB (pS r),eY (fG [asE t i 3,asE t i 0,fB r.A4]),orE [asE t i 3,eY (tM t r)]],fG [stE t i 2,asE t i 0,asE t i 3,qCR t i r],fG [stE t i 3,curE t i r,eY (waitE t i)]]
def actE (t:Am) (i:Nat) (r:Aj):Ad:=orE [auE t i 0,qIZ t i r,auE t i 1,auE t i 2]
def qSX (t:Am) (i:Nat) (r:Aj):List At:=[⟨1,oZ t i+0,0,zHN t i r⟩,⟨1,oZ t i+1,0,useE t i r⟩,⟨1,oZ t i+2,0,holdE t i r⟩,⟨1,oZ t i+3,0,actE t i r⟩]
theorem qWU (hC:COk t) (ht:t.Wf) {r:Aj} (hr:t.Ac[i]?=some r) (hb:b.length<=90000):iB (bld t b) (i:Int)=some (bld t (b++qSX t i r)):=by
 have hi:=(zQQ.1 hr).1;have hm:=zQM hr;have hlm:=hC.lim;have hl:=rV hC hi;have hs:=qES hC hr;have hf:=qUB hC hm;have ha:=hC.appr hm;have g0:bC r.Aa (0:Int)=λ(k:Int->Option Au)=>k (pS r):=by funext k;exact aR (i:=0) hf.1
 unfold iB;dsimp only;rw [aR hr,g0,hl.1];dsimp only;rw [aA,aR hs.1]
 simp only [aA, sB hC hi (show (0 : Int) <= 0 by omega) (show (0 : Int) <= 10 by omega), sB hC hi (show (0 : Int) <= 1 by omega) (show (1 : Int) <= 10 by omega), sB hC hi (show (0 : Int) <= 2 by omega) (show (2 : Int) <= 10 by omega), sB hC hi (show (0 : Int) <= 3 by omega) (show (3 : Int) <= 10 by omega),
  pW hC hi (show (0 : Int) <= 0 by omega) (show (0 : Int) <= 1000 by omega), pW hC hi (show (0 : Int) <= 1 by omega) (show (1 : Int) <= 1000 by omega), pW hC hi (show (0 : Int) <= 2 by omega) (show (2 : Int) <= 1000 by omega), pW hC hi (show (0 : Int) <= 3 by omega) (show (3 : Int) <= 1000 by omega),
  qLY hC hi (show (0 : Int) <= 0 by omega) (show (0 : Int) <= 1000 by omega), qLY hC hi (show (0 : Int) <= 3 by omega) (show (3 : Int) <= 1000 by omega), qHU, qIL, qFI, sA, qUO hC ht hr, qOU hC hr, b_at hC hi, zAK hC hr, qUP hC ht hr, qWT hC hi, qYQ hC hi,
  tX hf.2.1 (show pS r <= 1000 by omega), tX hs.2.1 (show wV t i r <= 1000 by omega), tX ha.1 (show r.A4 <= 1000 by omega)]
 rw [qAN (by omega),aA];dsimp only;rw [qAN (by simp;omega),aA];dsimp only;rw [qAN (by simp;omega),aA];dsimp only;rw [qAN (by simp;omega),aA];simp only [List.append_assoc];rfl
variable {t:Am} {b:List At} {i:Nat}
def oY (r:Aj) (k:Nat):Int:=r.Aa.getD k 0
theorem uX (hC:COk t) {r:Aj} (hr:r∈t.Ac) {k:Nat} (hk:k < r.Aa.length):r.Aa[k]?=some (oY r k)/\0<=oY r k/\oY r k < t.Aa:=by
 have h1:r.Aa[k]?=some (oY r k):=by
  unfold oY;rw [zQD,zQR hk];rfl
 exact⟨h1,hC.sec_in hr (List.mem_append_left _ (zQM h1))⟩
def relX (t:Am) (i:Nat) (r:Aj) (k:Nat):Ad:=fG [orE [auE t i 1,auE t i 2],orE [kZ t i (k:Int),fG ([stE t i 2,auE t i 1,asE t i 0,fB (oY r k),orE [eY (fB (oY r (k+1))),asE t i 1]]++if 0 < k then [kZ t i ((k:Int) - 1)] else [])]]
def wB (t:Am) (i:Nat) (r:Aj) (n:Nat):List At:=(List.range n).map λj=>⟨1,(dR t i:Int)+(4+((bB t i - 1 - j:Nat):Int)),0,relX t i r (bB t i - 1 - j)⟩
theorem qFW (r:Aj) (n:Nat):(wB t i r n).length=n:=by unfold wB;simp
def qFP (t:Am) (i:Nat) (r:Aj):List At:=wB t i r (bB t i)++[⟨1,(dR t i:Int)+1,0,qIZ t i r⟩,⟨1,(dR t i:Int)+2,0,auE t i 1⟩,⟨1,(dR t i:Int)+3,0,auE t i 2⟩]
theorem zGP (hC:COk t) (ht:t.Wf) {r:Aj} (hr:t.Ac[i]?=some r) (hb:b.length<=90000):jE (bld t b) (i:Int)=some (bld t (b++qFP t i r)):=by
 have hi:=(zQQ.1 hr).1;have hm:=zQM hr;have hlm:=hC.lim;have hl:=rV hC hi;have hsec:=hC.secs hm;have hln:bB t i=r.Aa.length - 1:=by unfold bB;rw [hr]
 unfold jE;dsimp only;rw [aR hr,hl.1,aA,aB (by unfold I64;omega)];rw [lU (λj=>((bB t i:Int) - 1 - (j:Int),b++wB t i r j)) (bB t i) (o:=b++wB t i r (bB t i)) (by simp [wB]) (by omega) (λj hj=>?_) (by dsimp only;rw [if_neg (by omega)];rfl),aA]
 ·have hlen : (b ++ wB t i r (bB t i)).length <= 91000 := by rw [zQL, qFW]; omega
  unfold qFP;rw [<- List.append_assoc];generalize b++wB t i r (bB t i)=B at hlen;rw [qAR hC hi (by omega) (by omega),aA,qUP hC ht hr,aA,qAN (by omega),aA];dsimp only;rw [qAR hC hi (by omega) (by omega),aA,sB hC hi (by omega) (by omega),aA,sA,aA,qAN (by simp;omega),aA];dsimp only;rw [qAR hC hi (by omega) (by omega),aA,sB hC hi (by omega) (by omega),aA,sA,aA,qAN (by simp;omega),aA];simp only [List.append_assoc];rfl
 have hlen : (b ++ wB t i r j).length <= 91000 := by rw [zQL, qFW]; omega
 have hstep:b++wB t i r (j+1)=(b++wB t i r j)++[⟨1,(dR t i:Int)+(4+((bB t i - 1 - j:Nat):Int)),0,relX t i r (bB t i - 1 - j)⟩]:=by
  unfold wB;rw [qKW,List.append_assoc]
 rw [hstep];generalize b++wB t i r j=B at hlen;obtain⟨k,hk⟩:∃ k:Nat,k=bB t i - 1 - j:=⟨_,rfl⟩;rw [<- hk];have hkI:(bB t i:Int) - 1 - (j:Int)=(k:Int):=by omega
 have hk1:=uX hC hm (k:=k) (by omega);have hk2:=uX hC hm (k:=k+1) (by omega);dsimp only;rw [hkI,if_pos (by omega),pW hC hi (by omega) (by omega),aA,sB hC hi (by omega) (by omega),aA,sA,aA,qLY hC hi (by omega) (by omega),aA,aR hk1.1,tX hk1.2.1 (by omega),aA,aB (by unfold I64;omega)];rw [show ((k:Int)+1)=((k+1:Nat):Int) by omega,aR hk2.1,tX hk2.2.1 (by omega),aA,qFI,aA,qLY hC hi (by omega) (by omega),aA,qIL,aA];generalize hL:[vE ((dR t i:Int)+2),vE (oZ t i+1),vE (vV t i+0),fB (oY r k),orE [eY (fB (oY r (k+1))),vE (vV t i+1)]]=L;have hLl:L.length=5:=by rw [<- hL];rfl
 have e1:(if (0:Int) < (k:Int) then aD (I64 ((k:Int) - 1)) (aC (dP (bld t B) (i:Int) ((k:Int) - 1)) λr29=>aD ((L++[r29]).length<=1000000000) (some (L++[r29]))) else some L)=some (L++if 0 < k then [kZ t i ((k:Int) - 1)] else []):=by
  by_cases h0:0 < k
  ·rw [if_pos (by omega),aB (by unfold I64;omega),qLX hC hi (by omega) (by omega),aA,aB (by simp;omega),if_pos h0]
  rw [if_neg (by omega),if_neg h0,List.append_nil]
 rw [e1,aA,aB (by unfold I64;omega),qAR hC hi (by omega) (by omega),aA,sB hC hi (show (0:Int)<=2 by omega) (by omega),aA,sA,aA,aA,sA,aA,qIL,aA,qLX hC hi (by omega) (by omega),aA,qHU,aA,qIL,aA,qHU,aA,qAN (by omega),aA,aB (by unfold I64;omega)];unfold relX;rw [hL,show ((k:Int) - 1)=(bB t i:Int) - 1 - ((j+1:Nat):Int) by omega]
variable {t:Am} {b:List At} {i:Nat}
theorem qGU {α β ρ:Type} (l:List α) (f:β->α->β) (Inv:Nat->β->Prop) {b0:β} {F:Int×β->Option ((Int×β) ⊕ ρ)} (o:β->ρ) (hn:l.length<=9223372036854775807) (h0:Inv 0 b0)
  (hs:∀ (i:Nat) (e:α) (B:β),l[i]?=some e->Inv i B->Inv (i+1) (f B e)/\F ((i:Int),B)=some (.inl ((i:Int)+1,f B e))) (he:∀ B,Inv l.length B->F ((l.length:Int),B)=some (.inr (o B))):
  aW F (0,b0)=some (o (l.foldl f b0))/\Inv l.length (l.foldl f b0):=by
 have hI:∀ i,i<=l.length->Inv i ((l.take i).foldl f b0):=by
  intro i hi
  induction i with
  | zero=>exact h0
  | succ i ih=>
   have hx:=zQR (show i < l.length by omega);rw [List.take_add_one,hx];simp only [Option.toList_some,List.foldl_append,List.foldl_cons,List.foldl_nil];exact (hs i _ _ hx (ih (by omega))).1
 have hL:=hI l.length (zQW _);rw [List.take_length] at hL;refine⟨mR l.length (λi=>(l.take i).foldl f b0) rfl hn (λi hi=>?_) (by rw [List.take_length];exact he _ hL),hL⟩;have hx:=zQR hi;rw [(hs i _ _ hx (hI i (by omega))).2,List.take_add_one,hx];simp only [Option.toList_some,List.foldl_append,List.foldl_cons,List.foldl_nil]
abbrev Sh:=Bool×List Int
def sY (n:Nat) (x:Int) (s:Sh):Sh:=if x < 0\/x=(n:Int) then (true,s.2) else if x∈s.2 then s else (s.1,s.2++[x])
def ShOk (n k:Nat) (s:Sh):Prop:=s.2.length<=k/\∀ x∈s.2,0<=x/\x < (n:Int)
theorem ShOk.mono {n k m:Nat} {s:Sh} (h:ShOk n k s) (hk:k<=m):ShOk n m s:=⟨Nat.le_trans h.1 hk,h.2⟩
theorem ShOk.fst {n k:Nat} {s:Sh} (h:ShOk n k s) (c:Bool):ShOk n k (c,s.2):=h
theorem qJS {n k:Nat} {x:Int} {s:Sh} (h:ShOk n k s) (hx:x<=(n:Int)):ShOk n (k+1) (sY n x s):=by
 unfold sY;split
 ·exact (h.fst true).mono (by omega)
 split
 ·exact h.mono (by omega)
 rename_i h1 h2;refine⟨by have:=h.1;simp;omega,λy hy=>?_⟩;simp only [zQN,List.mem_singleton] at hy;rcases hy with hy|hy
 ·exact h.2 y hy
 subst hy;omega
theorem zDO (hC:COk t) {j:Nat} (hj:j < t.Ac.length) {x:Int} {c:Bool} {l:List Int} (hl:l.length<=1000):cQ x (bld t b) (j:Int) c l=some (sY (bB t j) x (c,l)):=by
 unfold cQ sY;dsimp only;rw [(rV hC hj).1];by_cases h0:x < 0
 ·rw [if_pos h0,aA,if_pos rfl,if_pos (.inl h0)]
 rw [if_neg h0,aA,aA];by_cases h1:x=(bB t j:Int)
 ·rw [if_pos (decide_eq_true h1),if_pos (.inr h1)]
 rw [decide_eq_false h1, if_neg (by simp), if_neg (by intro hc; rcases hc with hc | hc; exact h0 hc; exact h1 hc), qAL l x (by unfold Cnt; omega), aA];by_cases h2:x∈l
 ·rw [decide_eq_true h2,if_neg (by simp),if_pos h2]
 rw [decide_eq_false h2,if_pos (by simp),if_neg h2,aB (by simp;omega)]
def qWA (n:Nat) (q:Aj) (f:Bool) (s:Sh) (x:Int):Sh:=
 let s1:=if 0<=gH (cZ q.Aa x) then sY n (gH (cZ q.Aa x)) s else s
 if s1.1=true then (true,s1.2) else if x∈q.Ah then (!f,s1.2) else (false,s1.2)
def qVZ (n:Nat) (q:Aj) (f g:Bool) (s:Sh) (x:Int):Sh:=
 let s1:=if 0<=gH (cZ q.Aa x)/\g=false then sY n (gH (cZ q.Aa x)) s else s
 if s1.1=true then (true,s1.2) else if x∈q.Ah then if f=false then (!g,s1.2) else (false,s1.2) else (false,s1.2)
theorem qLF (hC:COk t) {j:Nat} {q:Aj} (hq:t.Ac[j]?=some q) (x:Int):gH (cZ q.Aa x)<=(bB t j:Int):=by
 have hln:bB t j=q.Aa.length - 1:=by unfold bB;rw [hq]
 unfold cZ
 cases e:q.Aa.findIdx? λy=>y == x with
 | none=>simp only [gH];omega
 | some k=>obtain⟨_,_,_,hk⟩:=pO e;simp only [gH];omega
theorem zFE (hC:COk t) {j:Nat} {q:Aj} (hq:t.Ac[j]?=some q) {f:Bool} {k:Nat} {s:Sh} {x:Int} (h:ShOk (bB t j) k s):ShOk (bB t j) (k+1) (qWA (bB t j) q f s x):=by
 unfold qWA
 have h1:ShOk (bB t j) (k+1) (if 0<=gH (cZ q.Aa x) then sY (bB t j) (gH (cZ q.Aa x)) s else s):=by
  split
  ·exact qJS h (qLF hC hq x)
  exact h.mono (by omega)
 dsimp only;generalize (if 0<=gH (cZ q.Aa x) then sY (bB t j) (gH (cZ q.Aa x)) s else s)=s1 at h1;split
 ·exact h1.fst _
 split
 ·exact h1.fst _
 exact h1.fst _
theorem zFD (hC:COk t) {j:Nat} {q:Aj} (hq:t.Ac[j]?=some q) {f g:Bool} {k:Nat} {s:Sh} {x:Int} (h:ShOk (bB t j) k s):ShOk (bB t j) (k+1) (qVZ (bB t j) q f g s x):=by
 unfold qVZ
 have h1:ShOk (bB t j) (k+1) (if 0<=gH (cZ q.Aa x)/\g=false then sY (bB t j) (gH (cZ q.Aa x)) s else s):=by
  split
  ·exact qJS h (qLF hC hq x)
  exact h.mono (by omega)
 dsimp only;generalize (if 0<=gH (cZ q.Aa x)/\g=false then sY (bB t j) (gH (cZ q.Aa x)) s else s)=s1 at h1;split
 ·exact h1.fst _
 split
 ·split
  ·exact h1.fst _
  exact h1.fst _
 exact h1.fst _
theorem shA_eq (hC : COk t) {j : Nat} {r q : Aj} (hr : r ∈ t.Ac) (hq : t.Ac[j]? = some q) (f : Bool) {s0 : Sh} {k0 : Nat} (h0 : ShOk (bB t j) k0 s0) (hk : k0 <= 100) : aW (fun ((x12 : Int), (c13 : Bool), (b14 : List Int)) =>
   if x12 < (r.Aa.length : Int) then
    bC r.Aa x12 fun e17 =>
    aC (
     aC (eD q.Aa e17) fun r21 =>
     if (0 : Int) <= r21 then
      aC (cQ r21 (bld t b) (j : Int) c13 b14) fun (r24, r25) =>
      some (r24, r25)
     else
      some (c13, b14)) fun (c18, b19) =>
    if c18 = true then
     aD (I64 (x12 + (1 : Int))) <|
     some (.inl ((x12 + (1 : Int)), true, b19))
    else
     aC (fI q.Ah e17) fun r27 =>
     if r27 = true then
      aD (I64 (x12 + (1 : Int))) <|
      some (.inl ((x12 + (1 : Int)), !(f), b19))
     else
      aD (I64 (x12 + (1 : Int))) <|
      some (.inl ((x12 + (1 : Int)), false, b19))
   else
    aY (
     some (c13, b14))) ((0 : Int), s0) = some (r.Aa.foldl (qWA (bB t j) q f) s0) /\ ShOk (bB t j) (k0 + r.Aa.length) (r.Aa.foldl (qWA (bB t j) q f) s0) := by
 have hj:=(zQQ.1 hq).1;have hqm:=zQM hq;have hsum:=hC.sum r hr;have hsumq:=hC.sum q hqm;unfold rP at hsum hsumq;refine qGU r.Aa (qWA (bB t j) q f) (λi s=>ShOk (bB t j) (k0+i) s) (λs=>s) (by omega) h0 (λx e s hx hs=>⟨zFE hC hq hs,?_⟩) (λs _=>by obtain⟨c,l⟩:=s;dsimp only;rw [if_neg (by omega)];rfl);obtain⟨c,l⟩:=s;have hx':=(zQQ.1 hx).1;have hl:l.length<=1000:=by have:=hs.1;dsimp only at this;omega
 dsimp only;rw [if_pos (by omega),aR hx,rN _ _ (by unfold Cnt;omega),aA]
 have e1:(if (0:Int)<=gH (cZ q.Aa e) then aC (cQ (gH (cZ q.Aa e)) (bld t b) (j:Int) c l) λ(r24,r25)=>some (r24,r25) else some (c,l))=some (if 0<=gH (cZ q.Aa e) then sY (bB t j) (gH (cZ q.Aa e)) (c,l) else (c,l)):=by
  split
  ·rw [zDO hC hj hl,aA]
  rfl
 rw [e1,aA];unfold qWA;dsimp only;generalize (if 0<=gH (cZ q.Aa e) then sY (bB t j) (gH (cZ q.Aa e)) (c,l) else (c,l))=s1;obtain⟨c1,l1⟩:=s1;dsimp only;cases c1
 ·rw [if_neg (by simp), if_neg (by simp), qAL _ _ (by unfold Cnt; omega), aA];by_cases hm:e∈q.Ah
  ·rw [decide_eq_true hm,if_pos rfl,if_pos hm,aB (bD hx' (by omega))]
  rw [decide_eq_false hm,if_neg (by simp),if_neg hm,aB (bD hx' (by omega))]
 rw [if_pos rfl,if_pos rfl,aB (bD hx' (by omega))]
theorem shB_eq (hC : COk t) {j : Nat} {r q : Aj} (hr : r ∈ t.Ac) (hq : t.Ac[j]? = some q) (f g : Bool) {s0 : Sh} {k0 : Nat} (h0 : ShOk (bB t j) k0 s0) (hk : k0 <= 400) : aW (fun ((x40 : Int), (c41 : Bool), (b42 : List Int)) =>
   if x40 < (r.Ah.length : Int) then
    bC r.Ah x40 fun e45 =>
    aC (
     aC (eD q.Aa e45) fun r49 =>
     if ((decide ((0 : Int) <= r49)) && (!(g))) = true then
      aC (cQ r49 (bld t b) (j : Int) c41 b42) fun (r53, r54) =>
      some (r53, r54)
     else
      some (c41, b42)) fun (c46, b47) =>
    if c46 = true then
     aD (I64 (x40 + (1 : Int))) <|
     some (.inl ((x40 + (1 : Int)), true, b47))
    else
     aC (fI q.Ah e45) fun r56 =>
     if r56 = true then
      if (!(f)) = true then
       aD (I64 (x40 + (1 : Int))) <|
       some (.inl ((x40 + (1 : Int)), !(g), b47))
      else
       aD (I64 (x40 + (1 : Int))) <|
       some (.inl ((x40 + (1 : Int)), false, b47))
     else
      aD (I64 (x40 + (1 : Int))) <|
      some (.inl ((x40 + (1 : Int)), false, b47))
   else
    aY (
     some (c41, b42))) ((0 : Int), s0) = some (r.Ah.foldl (qVZ (bB t j) q f g) s0) /\ ShOk (bB t j) (k0 + r.Ah.length) (r.Ah.foldl (qVZ (bB t j) q f g) s0) := by
 have hj:=(zQQ.1 hq).1;have hqm:=zQM hq;have hsum:=hC.sum r hr;have hsumq:=hC.sum q hqm;unfold rP at hsum hsumq;refine qGU r.Ah (qVZ (bB t j) q f g) (λi s=>ShOk (bB t j) (k0+i) s) (λs=>s) (by omega) h0 (λx e s hx hs=>⟨zFD hC hq hs,?_⟩) (λs _=>by obtain⟨c,l⟩:=s;dsimp only;rw [if_neg (by omega)];rfl);obtain⟨c,l⟩:=s;have hx':=(zQQ.1 hx).1;have hl:l.length<=1000:=by have:=hs.1;dsimp only at this;omega
 dsimp only;rw [if_pos (by omega),aR hx,rN _ _ (by unfold Cnt;omega),aA]
 have e1:(if ((decide ((0:Int)<=gH (cZ q.Aa e)))&&(!(g)))=true then aC (cQ (gH (cZ q.Aa e)) (bld t b) (j:Int) c l) λ(r24,r25)=>some (r24,r25) else some (c,l))=some (if 0<=gH (cZ q.Aa e)/\g=false then sY (bB t j) (gH (cZ q.Aa e)) (c,l) else (c,l)):=by
  by_cases h:0<=gH (cZ q.Aa e)/\g=false
  ·rw [if_pos (by simp [h.1,h.2]),if_pos h,zDO hC hj hl,aA]
  rw [if_neg (by simpa using h),if_neg h]
 rw [e1,aA];unfold qVZ;dsimp only;generalize (if 0<=gH (cZ q.Aa e)/\g=false then sY (bB t j) (gH (cZ q.Aa e)) (c,l) else (c,l))=s1;obtain⟨c1,l1⟩:=s1;dsimp only;cases c1
 ·rw [if_neg Bool.false_ne_true, if_neg Bool.false_ne_true, qAL _ _ (by unfold Cnt; omega), aA];by_cases hm:e∈q.Ah
  ·rw [decide_eq_true hm,if_pos rfl,if_pos hm];cases f
   ·simp only [Bool.not_false,if_true];rw [aB (bD hx' (by omega))]
   simp only [Bool.not_true,Bool.false_eq_true,Bool.true_eq_false,if_false];rw [aB (bD hx' (by omega))]
  rw [decide_eq_false hm,if_neg Bool.false_ne_true,if_neg hm,aB (bD hx' (by omega))]
 rw [if_pos rfl,if_pos rfl,aB (bD hx' (by omega))]
variable {t:Am} {b:List At} {i:Nat}
theorem qZG (l:List Ag) (x:Ag) (h:Cnt l) (hx:Ag.ok x) (ho:∀ s∈l,Ag.ok s):jT l x=some (gH (l.findIdx? λy=>decide (x=y))):=by
 unfold jT;rw [wQ l (λy=>decide (x=y)) (λi=>.inr (i:Int)) (.inl ()) h (λk e he=>?_) (by rw [if_neg (by omega)];rfl)]
 ·cases l.findIdx? λy=>decide (x=y)<;>rfl
 have hi:=(zQQ.1 he).1;rw [if_pos (by omega),aR he,aB ⟨hx,ho e (zQM he)⟩];by_cases hz:x=e
 ·rw [if_pos hz,if_pos (decide_eq_true hz)];rfl
 rw [if_neg hz,aB (bD hi h),if_neg (by simpa using hz)]
theorem pF (l:List Ag) (x:Ag) (h:Cnt l) (hx:Ag.ok x) (ho:∀ s∈l,Ag.ok s):dF l x=some (decide (x∈l)):=by
 unfold dF;rw [qZG l x h hx ho,aA,qOJ,List.findIdx?_isSome]
 congr 1
 rw [Bool.eq_iff_iff,zQU];simp
def pQ (t:Am) (el:Int):Int:=t.As.getD (mA t el).toNat 0
theorem COk.home (hC:COk t) {r:Aj} (hr:r∈t.Ac) {x:Ag} (hx:x∈fF (dU r)):∃ k:Nat,mA t x.el=(k:Int)/\k < t.Ae.length/\t.As[k]?=some (pQ t x.el)/\0<=pQ t x.el/\pQ t x.el < t.Aa:=by
 have h1:=hC.set_in hr hx;have hp:=(oX hC.chk).2.1;unfold qX at hp;simp only [zQA,decide_eq_true_eq] at hp;obtain⟨k,hk⟩:∃ k:Nat,mA t x.el=(k:Int):=⟨(mA t x.el).toNat,by omega⟩;have hkl:k < t.Ae.length:=by omega
 have h2:t.As[k]?=some (pQ t x.el):=by
  unfold pQ;rw [hk,zQD,show ((k:Int)).toNat=k by omega,zQR (by omega)];rfl
 have h3:=allB_iff.1 hp.2 k hkl;rw [qGI (zQR hkl) (zQR (show k - 1 < t.Ae.length by omega)) h2] at h3;have h4:=of_decide_eq_true h3;exact⟨k,hk,hkl,h2,h4.2.2.1,h4.2.2.2⟩
def qGO (x:Ag):Ag:=⟨x.el,3 - x.pos⟩
def qVY (t:Am) (n:Nat) (q:Aj) (s:Sh) (x:Ag):Sh:=
 if qGO x∈q.Ar\/qGO x∈q.Az then (true,s.2) else if qGO x∈q.Ae then sY n (gH (cZ q.Aa (pQ t x.el))) s else s
theorem zFC (hC:COk t) {j:Nat} {q:Aj} (hq:t.Ac[j]?=some q) {k:Nat} {s:Sh} {x:Ag} (h:ShOk (bB t j) k s):ShOk (bB t j) (k+1) (qVY t (bB t j) q s x):=by
 unfold qVY;split
 ·exact (h.fst _).mono (by omega)
 split
 ·exact qJS h (qLF hC hq _)
 exact h.mono (by omega)
theorem shC_eq (hC : COk t) (ht : t.Wf) {j : Nat} {r q : Aj} (hr : r ∈ t.Ac) (hq : t.Ac[j]? = some q) {s0 : Sh} {k0 : Nat} (h0 : ShOk (bB t j) k0 s0) (hk : k0 <= 700) : aW (fun ((x72 : Int), (c73 : Bool), (b74 : List Int)) =>
   if x72 < ((fF (dU r)).length : Int) then
    bC (fF (dU r)) x72 fun e77 =>
    aD (I64 ((3 : Int) - e77.pos)) <|
    aC (
     aC (dF q.Ar (⟨e77.el, ((3 : Int) - e77.pos)⟩ : Ag)) fun r81 =>
     if r81 = true then
      some true
     else
      aC (dF q.Az (⟨e77.el, ((3 : Int) - e77.pos)⟩ : Ag)) fun r83 =>
      some r83) fun x79 =>
    if x79 = true then
     aD (I64 (x72 + (1 : Int))) <|
     some (.inl ((x72 + (1 : Int)), true, b74))
    else
     aC (dF q.Ae (⟨e77.el, ((3 : Int) - e77.pos)⟩ : Ag)) fun r86 =>
     if r86 = true then
      aC (iD t e77.el) fun r88 =>
      bC t.As r88 fun e89 =>
      aC (eD q.Aa e89) fun r90 =>
      aC (cQ r90 (bld t b) (j : Int) c73 b74) fun (r92, r93) =>
      aD (I64 (x72 + (1 : Int))) <|
      some (.inl ((x72 + (1 : Int)), r92, r93))
     else
      aD (I64 (x72 + (1 : Int))) <|
      some (.inl ((x72 + (1 : Int)), c73, b74))
   else
    aY (
     some (c73, b74))) ((0 : Int), s0) = some ((fF (dU r)).foldl (qVY t (bB t j) q) s0) /\ ShOk (bB t j) (k0 + (fF (dU r)).length) ((fF (dU r)).foldl (qVY t (bB t j) q) s0) := by
 have hj:=(zQQ.1 hq).1;have hqm:=zQM hq;have hsum:=hC.sum r hr;have hsumq:=hC.sum q hqm;unfold rP at hsum hsumq;have hal:=mE (dU r);have hal2:(dU r).length<=200:=by simp only [dU,zQL];omega
 have hlm:=hC.lim;have hso:=qFN ht q hqm;refine qGU (fF (dU r)) (qVY t (bB t j) q) (λi s=>ShOk (bB t j) (k0+i) s) (λs=>s) (by omega) h0 (λx e s hx hs=>⟨zFC hC hq hs,?_⟩) (λs _=>by obtain⟨c,l⟩:=s;dsimp only;rw [if_neg (by omega)];rfl);obtain⟨c,l⟩:=s;have hx':=(zQQ.1 hx).1;have hxm:=zQM hx;have hsi:=hC.set_in hr hxm;obtain⟨k,hk1,hk2,hk3,hk4,hk5⟩:=hC.home hr hxm;have hl:l.length<=1000:=by have:=hs.1;dsimp only at this;omega
 have heo:Ag.ok e:=qFN ht r hr e (ascS_mem.1 hxm);have hoo:Ag.ok (qGO e):=⟨heo.1,by show I64 (3 - e.pos);unfold I64;omega⟩;have hop:(⟨e.el,(3:Int) - e.pos⟩:Ag)=qGO e:=rfl;have o1:∀ s∈q.Ar,Ag.ok s:=λs hs=>hso s (by simp [dU,hs]);have o2:∀ s∈q.Az,Ag.ok s:=λs hs=>hso s (by simp [dU,hs]);have o3:∀ s∈q.Ae,Ag.ok s:=λs hs=>hso s (by simp [dU,hs]);dsimp only;rw [if_pos (by omega),aR hx,aB (by unfold I64;omega),hop,pF _ _ (by unfold Cnt;omega) hoo o1,aA,pF _ _ (by unfold Cnt;omega) hoo o2,aA];unfold qVY;dsimp only
 have e1:(if decide (qGO e∈q.Ar)=true then some true else some (decide (qGO e∈q.Az)))=some (decide (qGO e∈q.Ar\/qGO e∈q.Az)):=by
  by_cases h:qGO e∈q.Ar
  ·rw [if_pos (decide_eq_true h),decide_eq_true (Or.inl h)]
  rw [if_neg (by simpa using h)]
  congr 1
  rw [Bool.eq_iff_iff];simp [h]
 rw [e1,aA];by_cases hc:qGO e∈q.Ar\/qGO e∈q.Az
 ·rw [if_pos (decide_eq_true hc),if_pos hc,aB (bD hx' (by omega))]
 rw [if_neg (by rw [decide_eq_false hc]; exact Bool.false_ne_true), if_neg hc, pF _ _ (by unfold Cnt; omega) hoo o3, aA];by_cases hd:qGO e∈q.Ae
 ·have hid:gH (cZ t.Ae e.el)=(k:Int):=hk1;rw [if_pos (decide_eq_true hd),if_pos hd,oR t _ (by unfold Cnt;omega),aA,hid,aR hk3,rN _ _ (by unfold Cnt;omega),aA,zDO hC hj hl,aA,aB (bD hx' (by omega))]
 rw [if_neg (by rw [decide_eq_false hd];exact Bool.false_ne_true),if_neg hd,aB (bD hx' (by omega))]
def iY (r q:Aj):Bool:=(decide ((0:Int)<=r.exit))&&(decide (q.entry=r.exit))
def qBD (t:Am) (j:Nat) (r q:Aj):Sh:=
 (fF (dU r)).foldl (qVY t (bB t j) q) (r.Ah.foldl (qVZ (bB t j) q (iY q r) (iY r q)) (r.Aa.foldl (qWA (bB t j) q (iY q r)) (false,[])))
theorem qZD (hC:COk t) (ht:t.Wf) {j:Nat} {r q:Aj} (hr:t.Ac[i]?=some r) (hq:t.Ac[j]?=some q):iU (bld t b) (i:Int) (j:Int)=some (qBD t j r q)/\ShOk (bB t j) 200 (qBD t j r q):=by
 have hrm:=zQM hr;have hsum:=hC.sum r hrm;unfold rP at hsum;have hal:=mE (dU r);have hal2:(dU r).length=r.Ae.length+r.Ar.length+r.Az.length:=by simp only [dU,zQL]
 have hA:=shA_eq (b:=b) hC hrm hq (iY q r) (s0:=(false,[])) (k0:=0) ⟨by simp,by simp⟩ (by omega);have hB:=shB_eq (b:=b) hC hrm hq (iY q r) (iY r q) hA.2 (by omega);have hD:=shC_eq (b:=b) hC ht hrm hq hB.2 (by omega);refine⟨?_,hD.2.mono (by omega)⟩;unfold iU;dsimp only;rw [aR hr,aR hq];rw [show gO q r=some (iY q r) from rfl,aA,show gO r q=some (iY r q) from rfl,aA];rw [hA.1,aA,hB.1,aA,hC.sok ht hrm,aA,hD.1,aA];rfl
theorem qN {α:Type} {l:List α}:l.Nodup↔∀ a c,a < c->c < l.length->l[a]?≠l[c]?:=by
 unfold List.Nodup;rw [List.pairwise_iff_getElem];constructor
 ·intro h a c hac hc he;rw [zQR hc,zQR (show a < l.length by omega)] at he;exact h a c (by omega) hc hac (Option.some.inj he)
 intro h a c ha hc hac he;refine h a c hac hc ?_;rw [zQR hc,zQR ha,he]
theorem Ad.eta (e:Ad):(⟨e.op,e.var,e.args⟩:Ad)=e:=by cases e;rfl
def opB (v:List Bool) (op x:Int) (bs:List Bool):Bool:=
 if op=3 then decide (0<=x)&&v.getD x.toNat false
 else if op=4 then (match bs with|[]=>false|b :: _=>!b)
 else if op=5 then bs.all id
 else if op=6 then bs.any id
 else decide (op=2)
mutual
def evE (v:List Bool):Ad->Bool
 | ⟨op,x,l⟩=>opB v op x (evL v l)
def evL (v:List Bool):List Ad->List Bool
 | []=>[]
 | e :: r=>evE v e :: evL v r
end
mutual
def dpE:Ad->Nat
 | ⟨_,_,l⟩=>dpL l+1
def dpL:List Ad->Nat
 | []=>0
 | e :: r=>max (dpE e) (dpL r)
end
mutual
def szE:Ad->Nat
 | ⟨_,_,l⟩=>szL l+1
def szL:List Ad->Nat
 | []=>0
 | e :: r=>szE e+szL r
end
abbrev qTF:Nat:=9223372036854775807
mutual
def okE:Ad->Prop
 | ⟨_,_,l⟩=>l.length<=qTF/\okL l
def okL:List Ad->Prop
 | []=>True
 | e :: r=>okE e/\okL r
end
theorem qYE (v:List Bool):∀ l,evL v l=l.map (evE v)
 | []=>by simp [evL]
 | e :: r=>by simp [evL,qYE v r]
theorem evE_eq (v:List Bool) (e:Ad):evE v e=opB v e.op e.var (e.args.map (evE v)):=by
 cases e with
 | mk a b c=>rw [evE,qYE]
theorem dpL_le {d:Nat}:∀ {l:List Ad},dpL l<=d↔∀ e∈l,dpE e<=d
 | []=>by simp [dpL]
 | e :: r=>by rw [dpL,Nat.max_le,dpL_le (l:=r)];simp
theorem yK (e:Ad):dpE e=dpL e.args+1:=by
 cases e with
 | mk a b c=>rw [dpE]
theorem qXI:∀ l:List Ad,szL l=(l.map szE).sum
 | []=>by simp [szL]
 | e :: r=>by simp [szL,qXI r]
theorem qJR (e:Ad):szE e=szL e.args+1:=by
 cases e with
 | mk a b c=>rw [szE]
theorem qXJ (a b:List Ad):szL (a++b)=szL a+szL b:=by simp [qXI]
def pR (n:Int) (op x:Int) (k:Nat):Bool:=
 if op=1\/op=2 then decide (x=0/\k=0)
 else if op=3 then decide (0<=x/\x < n/\k=0)
 else if op=4 then decide (k=1/\x=0)
 else if op=5\/op=6 then decide (x=0)
 else false
mutual
def oC (n:Int):Ad->Bool
 | ⟨op,x,l⟩=>pR n op x l.length&&qCQ n l
def qCQ (n:Int):List Ad->Bool
 | []=>true
 | e :: r=>oC n e&&qCQ n r
end
theorem goodL_iff {n:Int}:∀ {l:List Ad},qCQ n l=true↔∀ e∈l,oC n e=true
 | []=>by simp [qCQ]
 | e :: r=>by rw [qCQ,zQA,goodL_iff (l:=r)];simp
def qRK (n:Int) (d left:Int) (e:Ad):Prop:=oC n e=true/\d+(dpE e:Int)<=13/\(szE e:Int)<=left
instance (n d left:Int) (e:Ad):Decidable (qRK n d left e):=by unfold qRK;infer_instance
theorem zFK {σ ρ:Type} {f:σ->Option (σ ⊕ ρ)} (P:ρ->Prop) (I:Nat->σ->Prop) {s:σ} (n:Nat) (hn:n<=qTF) (h0:I 0 s) (hs:∀ i,i < n->∀ s,I i s->(∃ s',f s=some (.inl s')/\I (i+1) s')\/(∃ o,f s=some (.inr o)/\P o)) (he:∀ s,I n s->∃ o,f s=some (.inr o)/\P o):∃ o,aW f s=some o/\P o:=by
 suffices h:∀ k i s,i+k=n->I i s->∃ o,oB f (k+1) s=some o/\P o by
  obtain⟨o,h1,h2⟩:=h n 0 s (by omega) h0;exact⟨o,wR h1 (by unfold eR qTF at *; omega),h2⟩
 intro k
 induction k with
 | zero=>
  intro i s hi hI;obtain⟨o,h1,h2⟩:=he s (by rw [show n=i by omega];exact hI);exact⟨o,by simp [oB,h1],h2⟩
 | succ k ih=>
  intro i s hi hI;rcases hs i (by omega) s hI with ⟨s',h1,h2⟩|⟨o,h1,h2⟩
  ·obtain ⟨o, h3, h4⟩ := ih (i + 1) s' (by omega) h2;exact⟨o,by rw [oB,h1];exact h3,h4⟩
  exact⟨o,by rw [oB,h1],h2⟩
abbrev valB (n:Int) (e:Ad):Bool:=decide (qRK n 1 20000 e)
variable {t:Am} {b:List At} {i:Nat}
def zAQ (t:Am) (i j:Nat):Ad:=if j < i then orE [auE t j 3,auE t j 4] else auE t j 3
def qDQ (t:Am) (i j:Nat) (r q:Aj):List Ad:=
 if (qBD t j r q).1=true then [eY (zAQ t i j)] else if (qBD t j r q).2.length=0 then [] else [orE ([eY (zAQ t i j)]++[fG ((qBD t j r q).2.map (kZ t j))])]
theorem qMC (i j:Nat) (r q:Aj):(qDQ t i j r q).length<=1:=by
 unfold qDQ;split
 ·simp
 split
 ·simp
 simp
theorem zGQ (hC:COk t) (ht:t.Wf) {j:Nat} {r q:Aj} (hr:t.Ac[i]?=some r) (hq:t.Ac[j]?=some q):jF (bld t b) (i:Int) (j:Int)=some (qDQ t i j r q):=by
 have hi:=(zQQ.1 hr).1;have hj:=(zQQ.1 hq).1;have hsh:=qZD (b:=b) hC ht hr hq;have hl:=(rV hC hj).2;unfold jF qDQ;rw [hsh.1,aA];have hk:=hsh.2;generalize qBD t j r q=S at hk;obtain⟨w,l⟩:=S;dsimp only at hk ⊢;rw [sB hC hj (show (0:Int)<=3 by omega) (show (3:Int)<=10 by omega),aA,sA,aA]
 have e1:(if (j:Int) < (i:Int) then aC (bI (qNI t) (j:Int) (4:Int)) λr11=>aC (dD r11) λr12=>aC (eS ([vE (oZ t j+3),r12]:List Ad)) λr13=>some (r13.op,r13.var,r13.args) else some ((vE (oZ t j+3)).op,(vE (oZ t j+3)).var,(vE (oZ t j+3)).args))=some ((zAQ t i j).op,(zAQ t i j).var,(zAQ t i j).args):=by
  unfold zAQ;by_cases h:j < i
  ·rw [if_pos (by omega),if_pos h,sB hC hj (by omega) (by omega),aA,sA,aA,qIL,aA]
  rw [if_neg (by omega),if_neg h]
 rw [e1,aA];dsimp only;cases w
 ·rw [if_neg Bool.false_ne_true,if_neg Bool.false_ne_true];by_cases h0:l.length=0
  ·rw [if_pos (by omega),if_pos h0]
  rw [if_neg (by omega), if_neg h0, qFI, aA, fV l (fun _ x => kZ t j x) [] (by have := hk.1; dsimp only at this; omega) (fun x e B hx hB => ?_) (by dsimp only; rw [if_neg (by omega)]; rfl), aA, fQ, List.nil_append, qHU, aA, aB (by simp), qIL, aA, Ad.eta];have hx':=(zQQ.1 hx).1;have hb:=hk.2 e (zQM hx);have hk1:=hk.1;dsimp only at hk1;simp only [List.length_nil,Nat.zero_add] at hB;dsimp only;rw [if_pos (by omega),aR hx,qLX hC hj (by omega) (by omega),aA,aB (by simp;omega),aB (bD hx' (by omega))]
 rw [if_pos rfl,if_pos rfl,qFI,aA,Ad.eta]
def zY (s:Int):Ad:=vE (2 * s+1)
def qER (t:Am) (x:Ag):Ad:=if x.pos=1 then eY (vE ((inN t:Int)+mA t x.el)) else vE ((inN t:Int)+mA t x.el)
def qXE (t:Am) (x:Ag):Ad:=orE [qER t x,fB (pQ t x.el)]
def mO (t:Am) (i:Nat) (r:Aj) (n:Nat):List Ad:=(List.range n).flatMap λj=>if j=i then [] else match t.Ac[j]? with|some q=>qDQ t i j r q|none=>[]
theorem qAU (i:Nat) (r:Aj):∀ n,(mO t i r n).length<=n
 | 0=>by simp [mO]
 | n+1=>by
  unfold mO;rw [List.range_succ,List.flatMap_append,zQL];have h:=qAU i r n;unfold mO at h
  have h2:(List.flatMap (λj=>if j=i then [] else match t.Ac[j]? with|some q=>qDQ t i j r q|none=>[]) [n]).length<=1:=by
   simp only [List.flatMap_cons,List.flatMap_nil,List.append_nil];split
   ·simp
   split
   ·exact qMC _ _ _ _
   simp
  omega
theorem qRJ (i:Nat) (r:Aj) (n:Nat):mO t i r (n+1)=mO t i r n++(if n=i then [] else match t.Ac[n]? with|some q=>qDQ t i n r q|none=>[]):=by
 unfold mO;rw [List.range_succ,List.flatMap_append];simp
def qRE (t:Am) (i:Nat) (r:Aj):Ad:=fG ((([asE t i 2,eY (auE t i 3)]++(r.Aa++r.Ah).map zY)++mO t i r t.Ac.length)++(fF (dU r)).map (qXE t))
theorem zDQ (hC:COk t) {k:Int} (h0:0<=k) (h1:k<=100):fX (qNI t) k=some ((inN t:Int)+k):=by
 have hlm:=hC.lim;have h2:=(yH t).1;have h3:=hC.base t.Ac.length;have h4:kX t=dR t t.Ac.length:=rfl;unfold fX;dsimp only;rw [aB (by unfold I64;omega)]
theorem zDR (hC:COk t) (ht:t.Wf) {r:Aj} (hr:t.Ac[i]?=some r):iV (bld t b) (i:Int)=some (qRE t i r):=by
 have hi:=(zQQ.1 hr).1;have hm:=zQM hr;have hlm:=hC.lim;have hsum:=hC.sum r hm;unfold rP at hsum;have hal:=mE (dU r);have hal2:(dU r).length<=200:=by simp only [dU,zQL];omega
 unfold iV;dsimp only;rw [aR hr,qLY hC hi (by omega) (by omega),aA,sB hC hi (by omega) (by omega),aA,sA,aA,qFI,aA,qBO _ ⟨by simp,by simp;omega⟩,aA];have hfl:[r.Aa,r.Ah].flatten=r.Aa++r.Ah:=by simp
 have hcl:(r.Aa++r.Ah).length<=200:=by rw [zQL];omega
 rw [hfl,fV (r.Aa++r.Ah) (λ_ s=>zY s) _ (by omega) (λx s B hx hB=>?_) (by dsimp only;rw [if_neg (by omega)];rfl),aA,fQ]
 ·have hP : ([vE (vV t i + 2), eY (vE (oZ t i + 3))] ++ (r.Aa ++ r.Ah).map zY).length <= 300 := by rw [zQL, zQC]; simp only [List.length_cons, List.length_nil]; omega
  unfold qRE;generalize ([vE (vV t i+2),eY (vE (oZ t i+3))]++(r.Aa++r.Ah).map zY)=P at hP;rw [mR t.Ac.length (λn=>P++mO t i r n) (o:=P++mO t i r t.Ac.length) (by simp [mO]) (by omega) (λn hn=>?_) (by dsimp only;rw [if_neg (by omega)];rfl),aA]
  ·have hP2 : (P ++ mO t i r t.Ac.length).length <= 400 := by have := qAU (t := t) i r t.Ac.length; rw [zQL]; omega
   generalize (P++mO t i r t.Ac.length)=P2 at hP2;rw [hC.sok ht hm,aA,fV (fF (dU r)) (λ_ s=>qXE t s) _ (by omega) (λx s B hx hB=>?_) (by dsimp only;rw [if_neg (by omega)];rfl),aA,qHU,aA,fQ];have hx':=(zQQ.1 hx).1;have hxm:=zQM hx;obtain⟨k,hk1,hk2,hk3,hk4,hk5⟩:=hC.home hm hxm;have hid:gH (cZ t.Ae s.el)=mA t s.el:=rfl;dsimp only;rw [if_pos (by omega),aR hx,oR t _ (by unfold Cnt;omega),aA,hid,zDQ hC (by omega) (by omega),aA,sA,aA]
   have e1:(if s.pos=(1:Int) then aC (dV (vE ((inN t:Int)+mA t s.el))) λr56=>some (r56.op,r56.var,r56.args) else some ((vE ((inN t:Int)+mA t s.el)).op,(vE ((inN t:Int)+mA t s.el)).var,(vE ((inN t:Int)+mA t s.el)).args))=some ((qER t s).op,(qER t s).var,(qER t s).args):=by
    unfold qER;by_cases h:s.pos=1
    ·rw [if_pos h,if_pos h,qFI,aA]
    rw [if_neg h,if_neg h]
   rw [e1,aA];dsimp only;rw [hk1,aR hk3,tX hk4 (by omega),aA,qIL,aA,aB (by simp;omega),aB (bD hx' (by omega)),Ad.eta];rfl
  have hlen : (P ++ mO t i r n).length <= 400 := by have := qAU (t := t) i r n; rw [zQL]; omega
  dsimp only;rw [qRJ,<- List.append_assoc];generalize (P++mO t i r n)=B at hlen;rw [if_pos (by omega)];by_cases hni:n=i
  ·rw [if_pos (by omega),if_pos hni,aB (bD hn (by omega)),List.append_nil]
  have hq:=zQR hn;have hal3:=qMC (t:=t) i n r t.Ac[n];rw [if_neg (by omega),if_neg hni,zGQ hC ht hr hq,aA,hq];dsimp only;rw [aB (by rw [zQL];omega),aB (bD hn (by omega))]
 have hx':=(zQQ.1 hx).1;have hs:=hC.sec_in hm (zQM hx);simp only [List.length_cons,List.length_nil] at hB;dsimp only;rw [if_pos (by omega),aR hx,zHT hs.1 (by omega) (by omega) (by omega),aA,sA,aA,aB (by simp;omega),aB (bD hx' (by omega))];rfl
def uI (t:Am) (el:Int) (rev:Bool) (r:Aj) (i:Nat) (l:List Ag):List Ad:=(l.filter λx=>decide (x.el=el)&&(rev == decide (x.pos=2))).map λ_=>auE t i 4
theorem qFO (el:Int) (rev:Bool) (r:Aj) (i:Nat) (l:List Ag):(uI t el rev r i l).length<=l.length:=by
 unfold uI;rw [zQC];exact List.length_filter_le _ _
theorem qJK (el:Int) (rev:Bool) (r:Aj) (i:Nat) {l:List Ag} {k:Nat} {x:Ag} (h:l[k]?=some x):uI t el rev r i (l.take (k+1))=uI t el rev r i (l.take k)++if x.el=el/\(rev=decide (x.pos=2)) then [auE t i 4] else []:=by
 unfold uI;rw [List.take_add_one,h,List.filter_append,List.map_append]
 congr 1
 by_cases hx:x.el=el/\(rev=decide (x.pos=2))
 ·rw [if_pos hx];simp only [Option.toList_some];rw [List.filter_cons_of_pos (by simp [hx.1,hx.2]),List.filter_nil];rfl
 rw [if_neg hx];simp only [Option.toList_some];rw [List.filter_cons_of_neg (by simpa using hx),List.filter_nil];rfl
def nE (t:Am) (el:Int) (rev:Bool) (n:Nat):List Ad:=(List.range n).flatMap λi=>match t.Ac[i]? with|some r=>uI t el rev r i (fF (dU r))|none=>[]
theorem zC (el:Int) (rev:Bool) {n:Nat} {r:Aj} (hr:t.Ac[n]?=some r):nE t el rev (n+1)=nE t el rev n++uI t el rev r n (fF (dU r)):=by
 unfold nE;rw [List.range_succ,List.flatMap_append];simp [hr]
theorem qCU (hC:COk t) (el:Int) (rev:Bool):∀ n,(nE t el rev n).length<=200 * n
 | 0=>by simp [nE]
 | n+1=>by
  have h:=qCU hC el rev n
  cases hr:t.Ac[n]? with
  | none=>
   have:nE t el rev (n+1)=nE t el rev n:=by
    unfold nE;rw [List.range_succ,List.flatMap_append];simp [hr]
   rw [this];omega
  | some r=>
   have h1:=qFO (t:=t) el rev r n (fF (dU r));have h2:=mE (dU r);have hsum:=hC.sum r (zQM hr);unfold rP at hsum;have hal2:(dU r).length<=200:=by simp only [dU,zQL];omega
   rw [zC el rev hr,zQL];omega
def zHJ (t:Am) (p:Nat) (el:Int):Ad:=orE [orE (nE t el true t.Ac.length),fG [vE ((inN t:Int)+(p:Int)),eY (orE (nE t el false t.Ac.length))]]
theorem b_lies (hC:COk t) (ht:t.Wf) {p:Nat} {el:Int} (hp:t.Ae[p]?=some el):jW (bld t b) (p:Int)=some (zHJ t p el):=by
 have hpl:=(zQQ.1 hp).1;have hlm:=hC.lim;unfold jW;dsimp only;rw [mR t.Ac.length (λn=>(nE t el false n,nE t el true n)) (o:=(nE t el false t.Ac.length,nE t el true t.Ac.length)) (by simp [nE]) (by omega) (λn hn=>?_) (by dsimp only;rw [if_neg (by omega)];rfl),aA]
 ·dsimp only;rw [qIL,aA,zDQ hC (by omega) (by omega),aA,sA,aA,qIL,aA,qFI,aA,qHU,aA,qIL,aA];rfl
 have hr:=zQR hn;have hm:=List.getElem_mem hn;have hsum:=hC.sum _ hm;unfold rP at hsum;have hal:=mE (dU t.Ac[n]);have hal2:(dU t.Ac[n]).length<=200:=by simp only [dU,zQL];omega
 have hw1:=qCU hC el false n;have hw2:=qCU hC el true n;dsimp only;rw [if_pos (by omega),aR hr,hC.sok ht hm,aA,zC el false hr,zC el true hr];generalize nE t el false n=A at hw1;generalize nE t el true n=B at hw2;rw [mR (fF (dU t.Ac[n])).length (λk=>(A++uI t el false t.Ac[n] n ((fF (dU t.Ac[n])).take k),B++uI t el true t.Ac[n] n ((fF (dU t.Ac[n])).take k))) (o:=(A++uI t el false t.Ac[n] n (fF (dU t.Ac[n])),B++uI t el true t.Ac[n] n (fF (dU t.Ac[n])))) (by simp [uI]) (by omega) (λk hk=>?_) (by dsimp only;rw [if_neg (by omega),List.take_length];rfl),aA]
 ·dsimp only;rw [aB (bD hn (by omega))]
 have hx:=zQR hk;have hs:=hC.set_in hm (zQM hx);have hv1:=qFO (t:=t) el false t.Ac[n] n ((fF (dU t.Ac[n])).take k);have hv2:=qFO (t:=t) el true t.Ac[n] n ((fF (dU t.Ac[n])).take k);rw [List.length_take] at hv1 hv2;dsimp only;rw [if_pos (by omega),aR hx,aR hp,qJK el false _ _ hx,qJK el true _ _ hx];generalize uI t el false t.Ac[n] n ((fF (dU t.Ac[n])).take k)=A' at hv1;generalize uI t el true t.Ac[n] n ((fF (dU t.Ac[n])).take k)=B' at hv2;generalize (fF (dU t.Ac[n]))[k]=x at hs;by_cases h1:x.el=el
 ·rw [if_pos h1];by_cases h2:x.pos=2
  ·rw [if_pos h2,sB hC hn (by omega) (by omega),aA,sA,aA,aB (by simp;omega),aB (bD hk (by omega)),if_neg (by simp [h2]),if_pos (by simp [h1,h2]),List.append_nil,List.append_assoc]
  rw [if_neg h2,sB hC hn (by omega) (by omega),aA,sA,aA,aB (by simp;omega),aB (bD hk (by omega)),if_pos (by simp [h1,h2]),if_neg (by simp [h2]),List.append_nil,List.append_assoc]
 rw [if_neg h1,aB (bD hk (by omega)),if_neg (by simp [h1]),if_neg (by simp [h1]),List.append_nil,List.append_nil]
variable {t:Am} {b:List At} {i:Nat}
theorem dC {β:Type} {f:Nat->List β} {c:Nat} (h:∀ i,(f i).length<=c) (n:Nat):((List.range n).flatMap f).length<=c * n:=by
 induction n with
 | zero=>simp
 | succ n ih=>
  rw [List.range_succ,List.flatMap_append,zQL];have:=h n;simp only [List.flatMap_cons,List.flatMap_nil,List.append_nil,Nat.mul_add,Nat.mul_one];omega
theorem mB {β:Type} (f:Nat->List β) (n:Nat):(List.range (n+1)).flatMap f=(List.range n).flatMap f++f n:=by
 rw [List.range_succ,List.flatMap_append];simp
def rt {α:Type} (t:Am) (f:Nat->Aj->List α) (i:Nat):List α:=match t.Ac[i]? with|some r=>f i r|none=>[]
theorem rY {α:Type} {f:Nat->Aj->List α} {r:Aj} (hr:t.Ac[i]?=some r):rt t f i=f i r:=by unfold rt;rw [hr]
def pt {α:Type} (t:Am) (f:Nat->Int->List α) (i:Nat):List α:=match t.Ae[i]? with|some r=>f i r|none=>[]
theorem zHF {α:Type} {f:Nat->Int->List α} {r:Int} (hr:t.Ae[i]?=some r):pt t f i=f i r:=by unfold pt;rw [hr]
theorem COk.sec24 (hC:COk t) {r:Aj} (hr:r∈t.Ac):r.Aa.length<=24:=by
 have h1:=((oX hC.chk).2.2.1 r hr).1;unfold nF at h1;simp only [zQA] at h1;have h2:=h1.1.1.2;have hlm:=hC.lim;unfold qHL at h2;rw [allB_iff] at h2
 have hn:(r.Aa++r.Ah).Nodup:=by
  rw [qN];intro a c hac hcl;have h3:=h2 c hcl;rw [xM (zQR hcl)] at h3;simp only [zQA,Bool.not_eq_true',decide_eq_false_iff_not] at h3;rw [zQR hcl,zQR (show a < _ by omega)];intro he;have he2:=Option.some.inj he;exact h3.2 (by rw [<- he2];exact List.mem_take_iff_getElem.2 ⟨a,by omega,rfl⟩)
 have hsub:(r.Aa++r.Ah).map Int.toNat⊆List.range 24:=by
  intro x hx;obtain⟨s,hs,rfl⟩:=List.mem_map.1 hx;have:=hC.sec_in hr hs;rw [List.mem_range];omega
 have hn2:((r.Aa++r.Ah).map Int.toNat).Nodup:=by
  rw [qN];intro a c hac hcl;rw [zQC] at hcl;rw [zQP,zQP,zQR hcl,zQR (show a < _ by omega)];simp only [Option.map_some];intro he;have he2:=Option.some.inj he;have ha:=hC.sec_in hr (List.getElem_mem (show a < _ by omega));have hb:=hC.sec_in hr (List.getElem_mem hcl);have h4:(r.Aa++r.Ah)[a]'(by omega)=(r.Aa++r.Ah)[c]:=by omega
  rw [qN] at hn;exact hn a c hac hcl (by rw [zQR hcl,zQR (show a < _ by omega),h4])
 have h5:=List.Nodup.length_le_of_subset hn2 hsub;simp only [zQC,zQL,List.length_range] at h5;omega
theorem COk.last24 (hC:COk t) (i:Nat):bB t i<=23:=by
 unfold bB
 cases hr:t.Ac[i]? with
 | none=>simp
 | some r=>have:=hC.sec24 (zQM hr);simp only;omega
def qIJ:BA:=⟨#[46]⟩
def nmB (w:BA) (i:Nat):BA:=(w++qIJ)++nL i
theorem sO:∀ i,i < 100->(nL i).size<=2:=by decide+kernel
theorem qQQ (hi:i < 100):lF (i:Int)=some (nL i):=by
 unfold lF;rw [aB (by omega),show ((i:Int)).toNat=i by omega]
theorem rK (hi:i < 100) (ws:List BA) (hw:∀ w∈ws,w.size<=1000) (hl:ws.length<=10) {B:List BA} (hB:B.length<=100000):cK (i:Int) ws B=some (B++ws.map (nmB · i)):=by
 unfold cK;rw [fV ws (λ_ w=>nmB w i) B (by omega) (λx w B' hx hB'=>?_) (by dsimp only;rw [if_neg (by omega)];rfl),fQ];have hx':=(zQQ.1 hx).1;have h1:=hw w (zQM hx);have h2:=sO i hi;have h3:(⟨#[46]⟩:BA).size=1:=rfl;dsimp only;rw [if_pos (by omega),aR hx,aB (by omega),qQQ hi,aA,aB (by rw [ByteArray.size_append];omega),aB (by simp;omega),aB (bD hx' (by omega))];rfl
def qRQ:BA:=⟨#[102,114,101,101]⟩
def zGY:BA:=⟨#[111,112,101,110]⟩
def qBA:BA:=⟨#[110,111,114,109,97,108]⟩
def vX:BA:=⟨#[114,101,118,101,114,115,101]⟩
def qJL:BA:=⟨#[117,110,99,108,97,105,109,101,100]⟩
def qXF:BA:=⟨#[112,97,115,115,101,100]⟩
def zHB:BA:=⟨#[99,97,108,108]⟩
def qXG:BA:=⟨#[99,97,110,99,101,108]⟩
def qMH:BA:=⟨#[108,105,101]⟩
def qBW:BA:=⟨#[115,101,116]⟩
def mX:BA:=⟨#[99,108,101,97,114]⟩
def rW:BA:=⟨#[117,115,101,100]⟩
def rX:BA:=⟨#[104,101,108,100]⟩
def wRelD:BA:=⟨#[114,101,108,46]⟩
def qRN:BA:=⟨#[119,97,105,116]⟩
def qJM:BA:=⟨#[115,116,97,110,100]⟩
def zGZ:BA:=⟨#[107,101,101,112]⟩
def wUse:BA:=⟨#[117,115,101]⟩
def zHA:BA:=⟨#[104,111,108,100]⟩
def wAct:BA:=⟨#[97,99,116]⟩
def qXH:BA:=⟨#[99,97,108,108,101,100]⟩
def nm1 (i:Nat):List BA:=[qRQ,zGY].map (nmB · i)
def nm2 (i:Nat):List BA:=[qBA,vX].map (nmB · i)
def nm3 (i:Nat):List BA:=[qJL,qXF,zHB,qXG].map (nmB · i)
def nm4 (i:Nat):List BA:=[qMH].map (nmB · i)
def wC (i n:Nat):List BA:=(List.range n).flatMap λk=>[wRelD++nL i].map (nmB · k)
def nm5 (t:Am) (i:Nat):List BA:=([qBW,mX,rW,rX].map (nmB · i)++wC i (bB t i))++[qRN,qJM].map (nmB · i)
def nm6 (i:Nat):List BA:=[zGZ,wUse,zHA,wAct,qXH].map (nmB · i)
def lA (t:Am):List BA:=(((((List.range t.Aa.toNat).flatMap nm1++(List.range t.Ae.length).flatMap nm2)++(List.range t.Ac.length).flatMap nm3)++(List.range t.Ae.length).flatMap nm4)++(List.range t.Ac.length).flatMap (nm5 t))++(List.range t.Ac.length).flatMap nm6
theorem zFG (t:Am) (i:Nat):(nm5 t i).length=6+bB t i:=by
 unfold nm5 wC;rw [zQL,zQL,fC (c:=1) (λ_=>rfl)];simp;omega
theorem tO (hC:COk t):∀ n,n<=t.Ac.length->inN t+t.Ae.length+((List.range n).flatMap (nm5 t)).length=dR t n
 | 0,_=>by rw [yO];simp
 | n+1,h=>by
  have hr:=zQR (show n < t.Ac.length by omega);have h1:=tO hC n (by omega);have hsec:=hC.secs (List.getElem_mem (show n < t.Ac.length by omega));have hln:bB t n=t.Ac[n].Aa.length - 1:=by unfold bB;rw [hr]
  have hw:qRL t.Ac[n]=5+t.Ac[n].Aa.length:=rfl;rw [mB,zQL,tW hr,zFG];omega
theorem qWE (hC:COk t):(lA t).length=mP t:=by
 have h1:=fC (f:=nm1) (c:=2) (λ_=>rfl) t.Aa.toNat;have h2:=fC (f:=nm2) (c:=2) (λ_=>rfl) t.Ae.length;have h3:=fC (f:=nm3) (c:=4) (λ_=>rfl) t.Ac.length;have h4:=fC (f:=nm4) (c:=1) (λ_=>rfl) t.Ae.length;have h5:=tO hC t.Ac.length (zQW _);have h6:=fC (f:=nm6) (c:=5) (λ_=>rfl) t.Ac.length;unfold lA;simp only [zQL,h1,h2,h3,h4,h6];have ha:mP t=kX t+5 * t.Ac.length:=rfl;have he:kX t=dR t t.Ac.length:=rfl;unfold inN at *;omega
theorem sz4 {ws:List BA} (h:ws.all (λw=>decide (w.size<=1000))=true):∀ w∈ws,w.size<=1000:=by
 intro w hw;rw [zQT] at h;exact of_decide_eq_true (h w hw)
theorem zCQ (hC:COk t):iJ (qNI t)=some (lA t):=by
 have hlm:=hC.lim;have hs:t.Aa=((t.Aa.toNat:Nat):Int):=by omega
 have h1:=fC (f:=nm1) (c:=2) (λ_=>rfl);have h2:=fC (f:=nm2) (c:=2) (λ_=>rfl);have h3:=fC (f:=nm3) (c:=4) (λ_=>rfl);have h4:=fC (f:=nm4) (c:=1) (λ_=>rfl);have h6:=fC (f:=nm6) (c:=5) (λ_=>rfl);unfold iJ;dsimp only;rw [cV nm1 [] t.Aa.toNat (by omega) (λi hi=>?_) (by dsimp only;rw [if_neg (by omega)];rfl),aA,List.nil_append]
 ·rw [cV nm2 _ t.Ae.length (by omega) (fun i hi => ?_) (by dsimp only; rw [if_neg (by omega)]; rfl), aA]
  ·rw [cV nm3 _ t.Ac.length (by omega) (fun i hi => ?_) (by dsimp only; rw [if_neg (by omega)]; rfl), aA]
   ·rw [cV nm4 _ t.Ae.length (by omega) (fun i hi => ?_) (by dsimp only; rw [if_neg (by omega)]; rfl), aA]
    ·have hpl:((((List.range t.Aa.toNat).flatMap nm1++(List.range t.Ae.length).flatMap nm2)++(List.range t.Ac.length).flatMap nm3)++(List.range t.Ae.length).flatMap nm4).length=inN t+t.Ae.length:=by
      simp only [zQL,h1,h2,h3,h4];unfold inN;omega
     unfold lA;generalize ((((List.range t.Aa.toNat).flatMap nm1++(List.range t.Ae.length).flatMap nm2)++(List.range t.Ac.length).flatMap nm3)++(List.range t.Ae.length).flatMap nm4)=P at hpl;rw [cV (nm5 t) _ t.Ac.length (by omega) (λi hi=>?_) (by dsimp only;rw [if_neg (by omega)];rfl),aA]
     ·have hP2:(P++(List.range t.Ac.length).flatMap (nm5 t)).length<=30000:=by
       have:=tO hC t.Ac.length (zQW _);have:=hC.base t.Ac.length;rw [zQL];omega
      generalize P++(List.range t.Ac.length).flatMap (nm5 t)=P2 at hP2;rw [cV nm6 _ t.Ac.length (by omega) (λi hi=>?_) (by dsimp only;rw [if_neg (by omega)];rfl),aA];dsimp only;rw [if_pos (by omega),rK (by omega) _ (sz4 (by decide)) (by simp) (by rw [zQL,h6];omega),aA,aB (bD hi (by omega))];rfl
     have hlen:(P++(List.range i).flatMap (nm5 t)).length<=30000:=by
      have:=tO hC i (by omega);have:=hC.base i;rw [zQL];omega
     generalize P++(List.range i).flatMap (nm5 t)=B at hlen;have hl:=rV hC hi;have hl2:=hC.last24 i;dsimp only;rw [if_pos (by omega),rK (by omega) _ (sz4 (by decide)) (by simp) (by omega),aA,hl.1,aA];have hB2:(B++[qBW,mX,rW,rX].map (nmB · i)).length<=30004:=by simp;omega
     rw [show B++nm5 t i=(B++[qBW,mX,rW,rX].map (nmB · i))++wC i (bB t i)++[qRN,qJM].map (nmB · i) by unfold nm5;simp only [List.append_assoc]];rw [show ([(⟨#[115,101,116]⟩:BA),(⟨#[99,108,101,97,114]⟩:BA),(⟨#[117,115,101,100]⟩:BA),(⟨#[104,101,108,100]⟩:BA)]:List BA)=[qBW,mX,rW,rX] from rfl];generalize B++[qBW,mX,rW,rX].map (nmB · i)=B2 at hB2;rw [cV (λk=>[wRelD++nL i].map (nmB · k)) B2 (bB t i) (by omega) (λk hk=>?_) (by dsimp only;rw [if_neg (by omega)];rfl),aA]
     ·have hB3:(B2++wC i (bB t i)).length<=30100:=by
       unfold wC;rw [zQL,fC (c:=1) (λ_=>rfl)];omega
      unfold wC at hB3 ⊢;generalize (B2++(List.range (bB t i)).flatMap λk=>[wRelD++nL i].map (nmB · k))=B3 at hB3;rw [rK (by omega) _ (sz4 (by decide)) (by simp) (by omega),aA,aA,aB (bD hi (by omega))];rfl
     have hsz := sO i (by omega)
     have hlen3:(B2++(List.range k).flatMap λk=>[wRelD++nL i].map (nmB · k)).length<=30100:=by
      rw [zQL,fC (c:=1) (λ_=>rfl)];omega
     dsimp only;rw [if_pos (by omega),qQQ (by omega),aA];rw [show (⟨#[114,101,108,46]⟩:BA)=wRelD from rfl];have hrs:wRelD.size=4:=rfl;rw [aB (by omega),rK (by omega) _ (by intro w hw;simp only [List.mem_singleton] at hw;subst hw;rw [ByteArray.size_append];omega) (by simp) (by omega),aA,aB (bD hk (by omega))]
    dsimp only;rw [if_pos (by omega),rK (by omega) _ (sz4 (by decide)) (by simp) (by simp only [zQL,h1,h2,h3,h4];omega),aA,aB (bD hi (by omega))];rfl
   dsimp only;rw [if_pos (by omega),rK (by omega) _ (sz4 (by decide)) (by simp) (by simp only [zQL,h1,h2,h3];omega),aA,aB (bD hi (by omega))];rfl
  dsimp only;rw [if_pos (by omega),rK (by omega) _ (sz4 (by decide)) (by simp) (by simp only [zQL,h1,h2];omega),aA,aB (bD hi (by omega))];rfl
 dsimp only;rw [if_pos (by omega),List.nil_append,rK (by omega) _ (sz4 (by decide)) (by simp) (by simp only [h1];omega),aA,aB (bD hi (by omega))];rfl
def qJB (t:Am) (i:Nat) (r:Aj):List At:=[⟨1,oZ t i+4,0,qRE t i r⟩]
def qTL (t:Am) (p:Nat) (el:Int):List At:=[⟨1,(inN t:Int)+(p:Int),0,zHJ t p el⟩]
def qRY (t:Am) (i:Nat):List At:=[⟨1,(dR t i:Int)+0,0,orE [auE t i 0,auE t i 4]⟩]
def qJY (t:Am):List At:=(List.range t.Ac.length).flatMap (rt t (qDW t))
def qNZ (t:Am):List At:=(List.range t.Ac.length).flatMap (rt t (qSX t))
def qSD (t:Am):List At:=(List.range t.Ac.length).flatMap (rt t (qFP t))
def qXP (t:Am):List At:=(List.range t.Ac.length).flatMap (rt t (qJB t))
def zBO (t:Am):List At:=(List.range t.Ae.length).flatMap (pt t (qTL t))
def qXO (t:Am):List At:=(List.range t.Ac.length).flatMap (qRY t)
def rungsT (t:Am):List At:=((((qJY t++qNZ t)++qSD t)++qXP t)++zBO t)++qXO t
abbrev prgT (t:Am):Program:=⟨lA t,(inN t:Int),rungsT t⟩
theorem zH {α:Type} {f:Nat->Aj->List α} {c:Nat} (h:∀ (i:Nat) (r:Aj),t.Ac[i]?=some r->(f i r).length<=c) (i:Nat):(rt t f i).length<=c:=by
 unfold rt
 cases hr:t.Ac[i]? with
 | none=>simp
 | some r=>exact h i r hr
theorem qJT (r:Aj):(qFP t i r).length=bB t i+3:=by unfold qFP;rw [zQL,qFW];rfl
theorem qP (f:Nat->Aj->List At) {F:Int×List At->Option ((Int×List At) ⊕ List At)} (pre:List At) (hn:t.Ac.length<=1000) {c:Nat} (hc:c<=1000) (hp:pre.length<=10000) (hf:∀ (i:Nat) (r:Aj),t.Ac[i]?=some r->(f i r).length<=c) (hnn:t.Ac.length<=48)
  (hF:∀ (i:Nat) (r:Aj) (B:List At),t.Ac[i]?=some r->B.length<=90000->F ((i:Int),B)=some (.inl ((i:Int)+1,B++f i r)))
  (he:∀ B,F ((t.Ac.length:Int),B)=some (.inr B)):aW F (0,pre)=some (pre++(List.range t.Ac.length).flatMap (rt t f)):=by
 refine cV (rt t f) pre t.Ac.length (by omega) (λi hi=>?_) (he _);have hr:=zQR hi
 have h1:((List.range i).flatMap (rt t f)).length<=48000:=by
  refine Nat.le_trans (dC (zH hf) i) ?_;have:c * i<=1000 * 48:=Nat.mul_le_mul hc (by omega);omega
 rw [hF i _ _ hr (by rw [zQL];omega),rY hr]
theorem qWY (h:TOk t) (ht:t.Wf) (hs:qCW t=true):kD t=some (if gI t=0 then if 2000 < mP t then (⟨[],0,[]⟩,2) else (prgT t,0) else (⟨[],0,[]⟩,gI t)):=by
 unfold kD;rw [qZT h hs,aA];by_cases hz:gI t=0
 ·obtain⟨hT,h1,h2,h3⟩:=qBC hs;have hC:COk t:=⟨h,h1,h2,h3,hz⟩;rw [if_pos hz,if_pos hz];by_cases ha:2000 < mP t
  ·rw [if_pos ha,if_pos ha];rfl
  rw [if_neg ha,if_neg ha];have hlm:=hC.lim;dsimp only;rw [if_pos rfl];have l1:(qJY t).length<=2 * t.Ac.length:=dC (zH λ_ _ _=>by simp [qDW]) _;have l2:(qNZ t).length<=4 * t.Ac.length:=dC (zH λ_ _ _=>by simp [qSX]) _;have l3:(qSD t).length<=30 * t.Ac.length:=dC (zH λi _ _=>by rw [qJT];have:=hC.last24 i;omega) _;have l4:(qXP t).length<=1 * t.Ac.length:=dC (zH λ_ _ _=>by simp [qJB]) _;have l5:(zBO t).length<=1 * t.Ae.length:=dC (λi=>by unfold pt;split<;>simp [qTL]) _;rw [qP (t:=t) (qDW t) [] (c:=2) (by omega) (by omega) (by simp) (λ_ _ _=>by simp [qDW]) (by omega) (λi r B hr hB=>?_) (λB=>by dsimp only;rw [if_neg (by omega)];rfl),aA,List.nil_append]
  ·rw [qP (t := t) (qSX t) _ (c := 4) (by omega) (by omega) (by unfold qJY at l1; omega) (fun _ _ _ => by simp [qSX]) (by omega) (fun i r B hr hB => ?_) (fun B => by dsimp only; rw [if_neg (by omega)]; rfl), aA]
   ·rw [qP (t := t) (qFP t) _ (c := 30) (by omega) (by omega) (by rw [zQL]; unfold qJY at l1; unfold qNZ at l2; omega) (fun i _ _ => by rw [qJT]; have := hC.last24 i; omega) (by omega) (fun i r B hr hB => ?_) (fun B => by dsimp only; rw [if_neg (by omega)]; rfl), aA]
    ·rw [qP (t := t) (qJB t) _ (c := 1) (by omega) (by omega) (by simp only [zQL]; unfold qJY at l1; unfold qNZ at l2; unfold qSD at l3; omega) (fun _ _ _ => by simp [qJB]) (by omega) (fun i r B hr hB => ?_) (fun B => by dsimp only; rw [if_neg (by omega)]; rfl), aA]
     ·rw [cV (pt t (qTL t)) _ t.Ae.length (by omega) (fun p hp => ?_) (by dsimp only; rw [if_neg (by omega)]; rfl), aA]
      ·rw [cV (qRY t) _ t.Ac.length (by omega) (fun i hi => ?_) (by dsimp only; rw [if_neg (by omega)]; rfl), aA, zCQ hC, aA]
       ·rfl
       have l6 : ((List.range i).flatMap (qRY t)).length <= 1 * i := dC (fun _ => by simp [qRY]) _;have hai:=hC.base t.Ac.length;dsimp only
       rw [if_pos (by omega), qAR hC hi (by omega) (by omega), aA, sB hC hi (by omega) (by omega), aA, sA, aA, sB hC hi (by omega) (by omega), aA, sA, aA, qIL, aA, qAN (by
        simp only [zQL]; unfold qJY at l1; unfold qNZ at l2; unfold qSD at l3; unfold qXP at l4; unfold zBO at l5; omega), aA, aB (bD hi (by omega))]
       rfl
      have l6 : ((List.range p).flatMap (pt t (qTL t))).length <= 1 * p := dC (fun i => by unfold pt; split <;> simp [qTL]) _;have hq:=zQR hp;dsimp only
      rw [if_pos (by omega), zDQ hC (by omega) (by omega), aA, b_lies hC ht hq, aA, qAN (by
        simp only [zQL]; unfold qJY at l1; unfold qNZ at l2; unfold qSD at l3; unfold qXP at l4; omega), aA, aB (bD hp (by omega)), zHF hq]
      rfl
     have hi:=(zQQ.1 hr).1;dsimp only;rw [if_pos (by omega),sB hC hi (by omega) (by omega),aA,zDR hC ht hr,aA,qAN (by omega),aA,aB (bD hi (by omega))];rfl
    have hi:=(zQQ.1 hr).1;dsimp only;rw [if_pos (by omega),zGP hC ht hr (by omega),aA,aB (bD hi (by omega))]
   have hi:=(zQQ.1 hr).1;dsimp only;rw [if_pos (by omega),qWU hC ht hr (by omega),aA,aB (bD hi (by omega))]
  have hi:=(zQQ.1 hr).1;dsimp only;rw [if_pos (by omega),zDP hC hr (by omega),aA,aB (bD hi (by omega))]
 rw [if_neg hz,if_neg hz];dsimp only;rw [if_neg hz]
structure POk (p:Go.Proofs.YtldaknhjmhlefaaGreatDoor.Program):Prop where
 An:p.An.length<=1000000000
 names:p.names.length<=9000000000000000000
 exprs:∀ r∈p.An,okE r.expr
def inV (n:Nat) (I V:List Bool):List Bool:=(List.range n).map (λi=>I.getD i false)++V.drop n
variable {t:Am} {b:List At} {i:Nat}
section nice
variable {n:Int} {d d' s s':Nat} {e:Ad} {l m:List Ad}
end nice
section vars
variable (hC:COk t) (hi:i < t.Ac.length)
include hC hi
end vars
section exprs
variable (hC:COk t) {r:Aj} (hr:t.Ac[i]?=some r)
include hC hr
end exprs
variable {t:Am} {b:List At} {i:Nat}
variable {t:Am} {b:List At} {i:Nat}
abbrev plT (t:Am):Be:=⟨2 * t.Aa,2 * t.Aa+2 * (t.Ae.length:Int),(inN t:Int),(kX t:Int),(mP t:Int),nN t t.Ac.length⟩
abbrev rcp (t:Am) (b:List At):Ao:=⟨t,plT t,b⟩
theorem zV (x:Int):fA x=some (vE x):=rfl
theorem nB (l:List Ad):eP l=some (fG l):=rfl
theorem zX (l:List Ad):hU l=some (orE l):=rfl
theorem oV (e:Ad):eU e=some (eY e):=rfl
theorem qGG (hC:COk t) (hi:i < t.Ac.length):eX (rcp t b) (i:Int)=some (bB t i:Int)/\bB t i<=200:=by
 have hr:=zQR hi;have hsec:=hC.secs (List.getElem_mem hi);have hln:bB t i=t.Ac[i].Aa.length - 1:=by unfold bB;rw [hr]
 refine⟨?_,by omega⟩;unfold eX;dsimp only;rw [aR hr,aB (by unfold I64;omega),hln,show ((t.Ac[i].Aa.length:Int) - 1)=((t.Ac[i].Aa.length - 1:Nat):Int) by omega]
theorem rS {s:Int} (h0:0<=s) (h1:s<=1000):cS (rcp t b) s=some (fB s):=by
 unfold cS;rw [aB (by unfold I64;omega),zV,aA]
theorem xX (hC:COk t) (hi:i < t.Ac.length) {k:Int} (h0:0<=k) (h1:k<=1000):bH (rcp t b) (i:Int) k=some (stE t i k):=by
 have:=hC.base i;unfold bH;dsimp only;rw [aR (qBT hi),aB (by unfold I64;omega),zV,aA]
theorem qBF (hC:COk t) (hi:i < t.Ac.length) {k:Int} (h0:0<=k) (h1:k<=1000):dH (rcp t b) (i:Int) k=some (asE t i k):=by
 have hlm:=hC.lim;unfold dH;dsimp only;rw [aB (by unfold I64;omega),aB (by unfold I64;omega),aB (by unfold I64;omega),zV,aA];rfl
theorem qSU (hC:COk t) (hi:i < t.Ac.length) {k:Int} (h0:0<=k) (h1:k<=900):eL (rcp t b) (i:Int) k=some (kZ t i k):=by
 have:=hC.base i;unfold eL;dsimp only;rw [aR (qBT hi),aB (by unfold I64;omega),aB (by unfold I64;omega),zV,aA,Int.add_assoc]
theorem yS (hC:COk t) (hi:i < t.Ac.length) {k:Int} (h0:0<=k) (h1:k<=10):bO (rcp t b) (i:Int) k=some (auE t i k):=by
 have hlm:=hC.lim;have:kX t<=30000:=hC.base t.Ac.length;unfold bO;dsimp only;rw [aB (by unfold I64;omega),aB (by unfold I64;omega),aB (by unfold I64;omega),zV,aA];rfl
theorem qIR (hC:COk t) (hi:i < t.Ac.length) {k:Int} (h0:0<=k) (h1:k<=10):eN (rcp t b) (i:Int) k=some (vE ((dR t i:Int)+4+(bB t i:Int)+k)):=by
 have:=hC.base i;have hl:=qGG (b:=b) hC hi;unfold eN;dsimp only;rw [aR (qBT hi),aB (by unfold I64;omega),hl.1,aA,aB (by unfold I64;omega),aB (by unfold I64;omega),zV,aA]
theorem zW {x:Int} {e:Ad} (hb:b.length<=100000):dO (rcp t b) (vE x) e=some (rcp t (b++[⟨1,x,0,e⟩])):=by
 unfold dO;dsimp only;rw [aB (by simp;omega)]
theorem qBJ {β ρ:Type} (n:Nat) (f:Nat->β) (pre:List β) {F:Int×List β->Option ((Int×List β) ⊕ ρ)} {o:ρ} (hn:n<=9223372036854775807) (hF:∀ (i:Nat) (B:List β),i < n->B.length=pre.length+i->F ((i:Int),B)=some (.inl ((i:Int)+1,B++[f i])))
  (he:F ((n:Int),pre++(List.range n).map f)=some (.inr o)):aW F (0,pre)=some o:=by
 refine mR n (λi=>pre++(List.range i).map f) (by simp) hn (λi hi=>?_) he;rw [hF i _ hi (by simp),qKW,List.append_assoc]
theorem zAH {r:Aj} (hr:t.Ac[i]?=some r) (hs:0 < r.Aa.length):(r.Aa.mapIdx λx s=>if x < bB t i then orE [kZ t i (x:Int),fB s] else fB s)=(List.range (bB t i)).map (λ(k:Nat)=>orE [kZ t i (k:Int),fB (oY r k)])++[fB (wV t i r)]:=by
 have hln:bB t i=r.Aa.length - 1:=by unfold bB;rw [hr]
 apply List.ext_getElem?;intro k;rw [List.getElem?_mapIdx];by_cases hk:k < bB t i
 ·rw [List.getElem?_append_left (by simpa using hk), zQP, List.getElem?_range hk, zQR (show k < r.Aa.length by omega)];simp only [Option.map_some];rw [if_pos hk];unfold oY;rw [zQD,zQR (show k < r.Aa.length by omega)];rfl
 rw [List.getElem?_append_right (by simpa using hk)];simp only [zQC,List.length_range];by_cases he:k=bB t i
 ·subst he;rw [Nat.sub_self,zQR (show bB t i < r.Aa.length by omega)];simp only [Option.map_some,List.getElem?_cons_zero];rw [if_neg (by omega)];unfold wV;rw [zQD,zQR (show bB t i < r.Aa.length by omega)];rfl
 rw [List.getElem?_eq_none (show r.Aa.length <= k by omega), List.getElem?_eq_none (by simp; omega)];rfl
theorem zCC (hC:COk t) {r:Aj} (hr:t.Ac[i]?=some r):gK (rcp t b) (i:Int)=some (qCR t i r):=by
 have hi:=(zQQ.1 hr).1;have hm:=zQM hr;have hlm:=hC.lim;have hsec:=hC.secs hm;have hln:bB t i=r.Aa.length - 1:=by unfold bB;rw [hr]
 have hs:=qES hC hr;have hll:((r.Aa.length:Int) - 1)=(bB t i:Int):=by omega
 unfold gK;dsimp only;rw [aR hr,qBJ (bB t i) (λ(k:Nat)=>orE [kZ t i (k:Int),fB (oY r k)]) [] (by omega) (λk B hk hB=>?_) (by dsimp only;rw [aB (by unfold I64;omega),if_neg (by omega)];rfl),aA]
 ·rw [aB (by unfold I64; omega), hll, aR hs.1, rS hs.2.1 (by omega), aA, aB (by simp; omega), nB, aA];unfold qCR;rw [zAH hr hsec.1,List.nil_append]
 have hk1 := uX hC hm (k := k) (by omega);simp only [List.length_nil,Nat.zero_add] at hB;dsimp only;rw [aB (by unfold I64;omega),if_pos (by omega),qSU hC hi (by omega) (by omega),aA,aR hk1.1,rS hk1.2.1 (by omega),aA,zX,aA,aB (by simp;omega),aB (by unfold I64;omega)]
def atX (t:Am) (i k:Nat):Ad:=fG ((if 0 < k then [kZ t i ((k:Int) - 1)] else [])++if k < bB t i then [eY (kZ t i (k:Int))] else [])
theorem zES (hC:COk t) (hi:i < t.Ac.length) {k:Nat} (hk:k<=500):gV (rcp t b) (i:Int) (k:Int)=some (atX t i k):=by
 have hl:=qGG (b:=b) hC hi;unfold gV atX
 have e1:(if (0:Int) < (k:Int) then aD (I64 ((k:Int) - 1)) (aC (eL (rcp t b) (i:Int) ((k:Int) - 1)) λr5=>aD ((([]:List Ad)++([r5]:List Ad)).length<=1000000000) (some (([]:List Ad)++([r5]:List Ad)))) else some [])=some (if 0 < k then [kZ t i ((k:Int) - 1)] else []):=by
  by_cases h0:0 < k
  ·rw [if_pos (by omega),aB (by unfold I64;omega),qSU hC hi (by omega) (by omega),aA,aB (by simp),if_pos h0];rfl
  rw [if_neg (by omega),if_neg h0]
 rw [e1,aA,hl.1,aA];have hl0:(if 0 < k then [kZ t i ((k:Int) - 1)] else []).length<=2:=by split<;>simp
 generalize (if 0 < k then [kZ t i ((k:Int) - 1)] else [])=L at hl0;by_cases h0:k < bB t i
 ·rw [if_pos (by omega),qSU hC hi (by omega) (by omega),aA,oV,aA,aB (by simp;omega),aA,nB,aA,if_pos h0]
 rw [if_neg (by omega),aA,nB,aA,if_neg h0,List.append_nil]
def tmX (t:Am) (i:Nat) (k:Int):Int:=(dR t i:Int)+4+(bB t i:Int)+k
def qDV (t:Am) (i:Nat) (r:Aj):List At:=[⟨2,tmX t i 0,12,fG [stE t i 3,asE t i 0,qCR t i r]⟩,⟨2,tmX t i 1,4,fG [stE t i 2,atX t i (bB t i),asE t i 0,eY (fB (wV t i r))]⟩]
theorem zBZ (hC:COk t) {r:Aj} (hr:t.Ac[i]?=some r) (hb:b.length<=90000):jC (rcp t b) (i:Int)=some (rcp t (b++qDV t i r)):=by
 have hi:=(zQQ.1 hr).1;have hm:=zQM hr;have hlm:=hC.lim;have hl:=qGG (b:=b) hC hi;have hs:=qES hC hr;unfold jC;dsimp only;rw [hl.1,aA,aR hr,aR hs.1,rS hs.2.1 (by omega),aA,xX hC hi (by omega) (by omega),aA,qBF hC hi (by omega) (by omega),aA,zCC hC hr,aA,nB,aA,xX hC hi (by omega) (by omega),aA,zES hC hi (by omega),aA,aA,oV,aA,nB,aA,qIR hC hi (by omega) (by omega),aA];dsimp only;rw [aB (by simp;omega),qIR hC hi (by omega) (by omega),aA,aB (by simp;omega)];simp only [List.append_assoc];rfl
theorem qVQ (hC:COk t) (ht:t.Wf) {r:Aj} (hr:t.Ac[i]?=some r):fW (rcp t b) (i:Int)=some (tM t r):=by
 have hi:=(zQQ.1 hr).1;have hm:=zQM hr;have hlm:=hC.lim;have hsum:=hC.sum r hm;unfold rP at hsum;have hal:=mE (dU r);have hal2:(dU r).length<=200:=by simp only [dU,zQL];omega
 unfold fW;dsimp only;rw [aR hr,fV r.Aa (λ_ s=>fB s) [] (by omega) (λx s B hx hB=>?_) (by dsimp only;rw [if_neg (by omega)];rfl),aA,fQ,List.nil_append]
 ·rw [fV r.Ah (fun _ s => fB s) _ (by omega) (fun x s B hx hB => ?_) (by dsimp only; rw [if_neg (by omega)]; rfl), aA, fQ, <- List.map_append]
  ·rw [lR r (hC.ok.each r hm),aA];have hP:((r.Aa++r.Ah).map fB).length<=200:=by simp only [zQC,zQL];omega
   unfold tM;generalize (r.Aa++r.Ah).map fB=P at hP;rw [fV (fF (dU r)) (λ_ s=>qNE t s) _ (by omega) (λx s B hx hB=>?_) (by dsimp only;rw [if_neg (by omega)];rfl),aA,fQ,nB,aA];have hx':=(zQQ.1 hx).1;have hsi:=hC.set_in hm (zQM hx);have hid:gH (cZ t.Ae s.el)=mA t s.el:=rfl;dsimp only;rw [if_pos (by omega),aR hx,oN t _ (by unfold Cnt;omega),aA,hid,aB (by unfold I64;omega),aB (by unfold I64;omega),aR hx,aB (by unfold I64;omega),aB (by unfold I64;omega),zV,aA,aB (by simp;omega),aB (bD hx' (by omega))];unfold qNE;have hk:s.pos - 1=(if s.pos=2 then (1:Int) else 0):=by split<;>omega
   rw [<- hk,show 2 * t.Aa+2 * mA t s.el+s.pos - 1=2 * t.Aa+2 * mA t s.el+(s.pos - 1) by omega]
  have hx':=(zQQ.1 hx).1;have hs:=hC.sec_in hm (List.mem_append_right _ (zQM hx));simp only [zQC] at hB;dsimp only;rw [if_pos (by omega),aR hx,rS hs.1 (by omega),aA,aB (by simp;omega),aB (bD hx' (by omega))]
 have hx':=(zQQ.1 hx).1;have hs:=hC.sec_in hm (List.mem_append_left _ (zQM hx));simp only [List.length_nil,Nat.zero_add] at hB;dsimp only;rw [if_pos (by omega),aR hx,rS hs.1 (by omega),aA,aB (by simp;omega),aB (bD hx' (by omega))]
def zAD (t:Am) (i:Nat) (r:Aj):Ad:=fG [asE t i 3,qCR t i r]
theorem zCB (hC:COk t) {r:Aj} (hr:t.Ac[i]?=some r):gF (rcp t b) (i:Int)=some (zAD t i r):=by
 have hi:=(zQQ.1 hr).1;unfold gF;rw [qBF hC hi (by omega) (by omega),aA,zCC hC hr,aA,nB,aA];rfl
def qTX (t:Am) (i:Nat) (r:Aj):Ad:=orE ((List.range (bB t i+1)).map λk=>fG [atX t i k,fB (oY r k)])
theorem zCA (hC:COk t) {r:Aj} (hr:t.Ac[i]?=some r):iX (rcp t b) (i:Int)=some (qTX t i r):=by
 have hi:=(zQQ.1 hr).1;have hm:=zQM hr;have hlm:=hC.lim;have hl:=qGG (b:=b) hC hi;have hsec:=hC.secs hm;have hln:bB t i=r.Aa.length - 1:=by unfold bB;rw [hr]
 unfold iX;rw [qBJ (bB t i+1) (λk=>fG [atX t i k,fB (oY r k)]) [] (by omega) (λk B hk hB=>?_) (by dsimp only;rw [hl.1,aA,if_neg (by omega)];rfl),aA,zX,aA,List.nil_append]
 ·rfl
 have hk1 := uX hC hm (k := k) (by omega);simp only [List.length_nil,Nat.zero_add] at hB;dsimp only;rw [hl.1,aA,if_pos (by omega),zES hC hi (by omega),aA,aR hr,aR hk1.1,rS hk1.2.1 (by omega),aA,nB,aA,aB (by simp;omega),aB (by unfold I64;omega)]
def useX (t:Am) (i:Nat) (r:Aj):Ad:=orE [fG [stE t i 1,eY (fB (pS r))],fG [stE t i 3,eY (qTX t i r)],fG [stE t i 2,orE [eY (asE t i 0),fG [eY (zAD t i r),eY (fG [atX t i (bB t i),fB (wV t i r)]),eY (vE (tmX t i 1))]]]]
def zCY (t:Am) (i:Nat) (r:Aj):Ad:=orE [fG [stE t i 1,fB (pS r),orE [asE t i 3,eY (tM t r)],eY (fG [asE t i 3,asE t i 0,fB r.A4])],fG [stE t i 2,asE t i 0,zAD t i r],fG [stE t i 3,qTX t i r,eY (vE (tmX t i 0))]]
def relY (t:Am) (i:Nat) (r:Aj) (k:Nat):Ad:=fG [orE [auE t i 1,auE t i 2],orE [kZ t i (k:Int),fG [stE t i 2,asE t i 0,eY (zAD t i r),atX t i k,fB (oY r k),orE [eY (fB (oY r (k+1))),asE t i 1]]]]
def wA (t:Am) (i:Nat) (r:Aj) (n:Nat):List At:=(List.range n).map λj=>⟨1,(dR t i:Int)+(4+((bB t i - 1 - j:Nat):Int)),0,relY t i r (bB t i - 1 - j)⟩
theorem qFV (r:Aj) (n:Nat):(wA t i r n).length=n:=by unfold wA;simp
def qOC (t:Am) (i:Nat) (r:Aj):List At:=([⟨1,oZ t i+0,0,zHN t i r⟩,⟨1,oZ t i+1,0,useX t i r⟩,⟨1,oZ t i+2,0,zCY t i r⟩,⟨1,(dR t i:Int)+1,0,qIZ t i r⟩]++wA t i r (bB t i))++[⟨1,(dR t i:Int)+2,0,auE t i 1⟩,⟨1,(dR t i:Int)+3,0,auE t i 2⟩,⟨1,oZ t i+3,0,orE [auE t i 0,stE t i 1,stE t i 2,stE t i 3]⟩]
theorem qOB (r:Aj):(qOC t i r).length=bB t i+7:=by unfold qOC;rw [zQL,zQL,qFV];simp;omega
theorem qVR (hC:COk t) (ht:t.Wf) {r:Aj} (hr:t.Ac[i]?=some r) (hb:b.length<=90000):iH (rcp t b) (i:Int)=some (rcp t (b++qOC t i r)):=by
 have hi:=(zQQ.1 hr).1;have hm:=zQM hr;have hlm:=hC.lim;have hl (b:List At):=qGG (b:=b) hC hi;have hl2:=(hl b).2;have hs:=qES hC hr;have hf:=qUB hC hm;have ha:=hC.appr hm;have hsec:=hC.secs hm;have hln:bB t i=r.Aa.length - 1:=by unfold bB;rw [hr]
 have g0:bC r.Aa (0:Int)=λ(k:Int->Option Ao)=>k (pS r):=by funext k;exact aR (i:=0) hf.1
 have rr:∀ (b:List At),dH (rcp t b) (i:Int) 0=some (asE t i 0)/\dH (rcp t b) (i:Int) 3=some (asE t i 3)/\dH (rcp t b) (i:Int) 1=some (asE t i 1):=λb=>⟨qBF hC hi (by omega) (by omega),qBF hC hi (by omega) (by omega),qBF hC hi (by omega) (by omega)⟩;have st:∀ (b:List At),bH (rcp t b) (i:Int) 0=some (stE t i 0)/\bH (rcp t b) (i:Int) 1=some (stE t i 1)/\bH (rcp t b) (i:Int) 2=some (stE t i 2)/\bH (rcp t b) (i:Int) 3=some (stE t i 3):=λb=>⟨xX hC hi (by omega) (by omega),xX hC hi (by omega) (by omega),xX hC hi (by omega) (by omega),xX hC hi (by omega) (by omega)⟩;have au:∀ (b:List At),bO (rcp t b) (i:Int) 0=some (auE t i 0)/\bO (rcp t b) (i:Int) 1=some (auE t i 1)/\bO (rcp t b) (i:Int) 2=some (auE t i 2)/\bO (rcp t b) (i:Int) 3=some (auE t i 3):=λb=>⟨yS hC hi (by omega) (by omega),yS hC hi (by omega) (by omega),yS hC hi (by omega) (by omega),yS hC hi (by omega) (by omega)⟩;have tm:∀ (b:List At),eN (rcp t b) (i:Int) 0=some (vE (tmX t i 0))/\eN (rcp t b) (i:Int) 1=some (vE (tmX t i 1)):=λb=>⟨qIR hC hi (by omega) (by omega),qIR hC hi (by omega) (by omega)⟩;unfold iH;dsimp only;rw [aR hr,(hl b).1,aA,(rr b).1,aA,(rr b).2.1,aA,g0];dsimp only;rw [rS hf.2.1 (by omega),aA,aR hs.1,rS hs.2.1 (by omega),aA,(au b).1,aA,(st b).1,aA,oV,aA,qVQ hC ht hr,aA,oV,aA,nB,aA,zW (by omega),aA];dsimp only;generalize hb1:b++[⟨1,oZ t i+0,0,fG [vE ((dR t i:Int)+0),eY (vE (vV t i+3)),eY (tM t r)]⟩]=b1;have hl1:b1.length=b.length+1:=by rw [<- hb1];simp
 rw [oV,aA,zCB hC hr,aA,oV,aA,zES hC hi (by omega),aA,nB,aA,oV,aA,(tm b1).2,aA,oV,aA,nB,aA,zX,aA,(au b1).2.1,aA,(st b1).2.1,aA,oV,aA,nB,aA,(st b1).2.2.2,aA,zCA hC hr,aA,oV,aA,nB,aA,(st b1).2.2.1,aA,nB,aA,zX,aA,zW (by omega),aA];dsimp only;rw [show orE [fG [vE ((dR t i:Int)+1),eY (fB (pS r))],fG [vE ((dR t i:Int)+3),eY (qTX t i r)],fG [vE ((dR t i:Int)+2),orE [eY (vE (vV t i+0)),fG [eY (zAD t i r),eY (fG [atX t i (bB t i),fB (wV t i r)]),eY (vE (tmX t i 1))]]]]=useX t i r from rfl];generalize hb2:b1++[⟨1,oZ t i+1,0,useX t i r⟩]=b2;have hl2':b2.length=b.length+2:=by rw [<- hb2];simp;omega
 rw [rS ha.1 (by omega),aA,nB,aA,(au b2).2.2.1,aA,(st b2).2.1,aA,qVQ hC ht hr,aA,oV,aA,zX,aA,oV,aA,nB,aA,(st b2).2.2.1,aA,zCB hC hr,aA,nB,aA,(st b2).2.2.2,aA,zCA hC hr,aA,(tm b2).1,aA,oV,aA,nB,aA,zX,aA,zW (by omega),aA];dsimp only;rw [show orE [fG [vE ((dR t i:Int)+1),fB (pS r),orE [vE (vV t i+3),eY (tM t r)],eY (fG [vE (vV t i+3),vE (vV t i+0),fB r.A4])],fG [vE ((dR t i:Int)+2),vE (vV t i+0),zAD t i r],fG [vE ((dR t i:Int)+3),qTX t i r,eY (vE (tmX t i 0))]]=zCY t i r from rfl];generalize hb3:b2++[⟨1,oZ t i+2,0,zCY t i r⟩]=b3;have hl3:b3.length=b.length+3:=by rw [<- hb3];simp;omega
 rw [(st b3).2.1,aA,(st b3).1,aA,aA,zX,aA,aA,qVQ hC ht hr,aA,nB,aA,zW (by omega),aA];dsimp only;generalize hb4:b3++[⟨1,(dR t i:Int)+1,0,fG [orE [vE ((dR t i:Int)+0),vE ((dR t i:Int)+1)],eY (vE (vV t i+3)),tM t r]⟩]=b4;have hl4:b4.length=b.length+4:=by rw [<- hb4];simp;omega
 rw [aB (by unfold I64;omega),lU (λj=>((bB t i:Int) - 1 - (j:Int),b4++wA t i r j)) (bB t i) (o:=b4++wA t i r (bB t i)) (by simp [wA]) (by omega) (λj hj=>?_) (by dsimp only;rw [if_neg (by omega)];rfl),aA]
 ·have hlen : (b4 ++ wA t i r (bB t i)).length <= 91000 := by rw [zQL, qFV]; omega
  generalize hb5:b4++wA t i r (bB t i)=b5 at hlen;rw [(st b5).2.2.1,aA,(au b5).2.1,aA,zW (by omega),aA];dsimp only;rw [(st _).2.2.2,aA,(au _).2.2.1,aA,zW (by simp;omega),aA];dsimp only;rw [(au _).2.2.2,aA,(au _).1,aA,(st _).2.1,aA,(st _).2.2.1,aA,(st _).2.2.2,aA,zX,aA,zW (by simp;omega),aA];dsimp only;rw [<- hb5,<- hb4,<- hb3,<- hb2,<- hb1];unfold qOC;simp only [List.append_assoc,List.cons_append,List.nil_append];rfl
 have hlen : (b4 ++ wA t i r j).length <= 91000 := by rw [zQL, qFV]; omega
 have hstep:b4++wA t i r (j+1)=(b4++wA t i r j)++[⟨1,(dR t i:Int)+(4+((bB t i - 1 - j:Nat):Int)),0,relY t i r (bB t i - 1 - j)⟩]:=by
  unfold wA;rw [qKW,List.append_assoc]
 rw [hstep];generalize b4++wA t i r j=B at hlen;obtain⟨k,hk⟩:∃ k:Nat,k=bB t i - 1 - j:=⟨_,rfl⟩;rw [<- hk];have hkI:(bB t i:Int) - 1 - (j:Int)=(k:Int):=by omega
 have hk1:=uX hC hm (k:=k) (by omega);have hk2:=uX hC hm (k:=k+1) (by omega);dsimp only;rw [hkI,if_pos (by omega),aB (by unfold I64;omega),show ((k:Int)+1)=((k+1:Nat):Int) by omega,aR hk2.1,rS hk2.2.1 (by omega),aA,oV,aA,(rr B).2.2,aA,zX,aA,(st B).2.2.1,aA,zCB hC hr,aA,oV,aA,zES hC hi (by omega),aA,aR hk1.1,rS hk1.2.1 (by omega),aA,nB,aA,qSU hC hi (by omega) (by omega),aA,(au B).2.1,aA,(au B).2.2.1,aA,zX,aA,aA,zX,aA,nB,aA,zW (by omega),aA,aB (by unfold I64;omega)];unfold relY;rw [show ((k:Int) - 1)=(bB t i:Int) - 1 - ((j+1:Nat):Int) by omega]
variable {t:Am} {b:List At} {i:Nat}
theorem qOK:∀ i:Nat,i < 100->nR (i:Int)=some (nL i):=by decide+kernel
theorem jA (hi:i < 100) {w:BA} (hw:w.size<=1000):eG w (i:Int)=some (nmB w i):=by
 have h2:=sO i hi;have h3:(⟨#[46]⟩:BA).size=1:=rfl;unfold eG;rw [aB (by omega),qOK i hi,aA,aB (by rw [ByteArray.size_append];omega)];rfl
def qDU:BA:=⟨#[114,101,108]⟩
theorem relD (i:Nat):nmB qDU i=wRelD++nL i:=by
 unfold nmB;rw [show qDU++qIJ=wRelD from rfl]
theorem zDW (hC:COk t):rG t=some (lA t,(inN t:Int)):=by
 have hlm:=hC.lim;have hs:t.Aa=((t.Aa.toNat:Nat):Int):=by omega
 have h1:=fC (f:=nm1) (c:=2) (λ_=>rfl);have h2:=fC (f:=nm2) (c:=2) (λ_=>rfl);have h3:=fC (f:=nm3) (c:=4) (λ_=>rfl);have h4:=fC (f:=nm4) (c:=1) (λ_=>rfl);have h6:=fC (f:=nm6) (c:=5) (λ_=>rfl);unfold rG;dsimp only;rw [cV nm1 [] t.Aa.toNat (by omega) (λi hi=>?_) (by dsimp only;rw [if_neg (by omega)];rfl),aA,List.nil_append]
 ·rw [cV nm2 _ t.Ae.length (by omega) (fun i hi => ?_) (by dsimp only; rw [if_neg (by omega)]; rfl), aA]
  ·rw [cV nm3 _ t.Ac.length (by omega) (fun i hi => ?_) (by dsimp only; rw [if_neg (by omega)]; rfl), aA]
   ·have hpi:(((List.range t.Aa.toNat).flatMap nm1++(List.range t.Ae.length).flatMap nm2)++(List.range t.Ac.length).flatMap nm3).length=inN t:=by
     simp only [zQL,h1,h2,h3];unfold inN;omega
    rw [hpi];rw [cV nm4 _ t.Ae.length (by omega) (λi hi=>?_) (by dsimp only;rw [if_neg (by omega)];rfl),aA]
    ·have hpl:((((List.range t.Aa.toNat).flatMap nm1++(List.range t.Ae.length).flatMap nm2)++(List.range t.Ac.length).flatMap nm3)++(List.range t.Ae.length).flatMap nm4).length=inN t+t.Ae.length:=by
      rw [zQL,hpi,h4];omega
     unfold lA;generalize ((((List.range t.Aa.toNat).flatMap nm1++(List.range t.Ae.length).flatMap nm2)++(List.range t.Ac.length).flatMap nm3)++(List.range t.Ae.length).flatMap nm4)=P at hpl;rw [cV (nm5 t) _ t.Ac.length (by omega) (λi hi=>?_) (by dsimp only;rw [if_neg (by omega)];rfl),aA]
     ·have hP2:(P++(List.range t.Ac.length).flatMap (nm5 t)).length<=30000:=by
       have:=tO hC t.Ac.length (zQW _);have:=hC.base t.Ac.length;rw [zQL];omega
      generalize P++(List.range t.Ac.length).flatMap (nm5 t)=P2 at hP2;rw [cV nm6 _ t.Ac.length (by omega) (λi hi=>?_) (by dsimp only;rw [if_neg (by omega)];rfl),aA];have hlen:(P2++(List.range i).flatMap nm6).length<=30300:=by rw [zQL,h6];omega
      generalize P2++(List.range i).flatMap nm6=B at hlen;dsimp only;rw [if_pos (by omega),jA (by omega) (show (⟨#[107,101,101,112]⟩:BA).size<=1000 by decide),aA,aB (by simp;omega),jA (by omega) (show (⟨#[117,115,101]⟩:BA).size<=1000 by decide),aA,aB (by simp;omega),jA (by omega) (show (⟨#[104,111,108,100]⟩:BA).size<=1000 by decide),aA,aB (by simp;omega),jA (by omega) (show (⟨#[97,99,116]⟩:BA).size<=1000 by decide),aA,aB (by simp;omega),jA (by omega) (show (⟨#[99,97,108,108,101,100]⟩:BA).size<=1000 by decide),aA,aB (by simp;omega),aB (bD hi (by omega))];simp only [List.append_assoc];rfl
     have hlen:(P++(List.range i).flatMap (nm5 t)).length<=30000:=by
      have:=tO hC i (by omega);have:=hC.base i;rw [zQL];omega
     generalize P++(List.range i).flatMap (nm5 t)=B at hlen;have hr:=zQR hi;have hsec:=hC.secs (List.getElem_mem hi);have hln:bB t i=t.Ac[i].Aa.length - 1:=by unfold bB;rw [hr]
     have hl2:=hC.last24 i;generalize t.Ac[i]=r at hr hsec hln;dsimp only;rw [if_pos (by omega),jA (by omega) (show (⟨#[115,101,116]⟩:BA).size<=1000 by decide),aA,aB (by simp;omega),jA (by omega) (show (⟨#[99,108,101,97,114]⟩:BA).size<=1000 by decide),aA,aB (by simp;omega),jA (by omega) (show (⟨#[117,115,101,100]⟩:BA).size<=1000 by decide),aA,aB (by simp;omega),jA (by omega) (show (⟨#[104,101,108,100]⟩:BA).size<=1000 by decide),aA,aB (by simp;omega)];have hB2:((((B++[nmB qBW i])++[nmB mX i])++[nmB rW i])++[nmB rX i]).length<=30004:=by simp;omega
     rw [show B++nm5 t i=((((((B++[nmB qBW i])++[nmB mX i])++[nmB rW i])++[nmB rX i])++wC i (bB t i))++[nmB qRN i])++[nmB qJM i] by unfold nm5;simp only [List.append_assoc,List.map_cons,List.map_nil,List.cons_append,List.nil_append]];rw [show (nmB (⟨#[115,101,116]⟩:BA) i)=nmB qBW i from rfl,show (nmB (⟨#[99,108,101,97,114]⟩:BA) i)=nmB mX i from rfl,show (nmB (⟨#[117,115,101,100]⟩:BA) i)=nmB rW i from rfl,show (nmB (⟨#[104,101,108,100]⟩:BA) i)=nmB rX i from rfl];generalize ((((B++[nmB qBW i])++[nmB mX i])++[nmB rW i])++[nmB rX i])=B2 at hB2;rw [cV (λk=>[wRelD++nL i].map (nmB · k)) B2 (bB t i) (by omega) (λk hk=>?_) (by dsimp only;rw [aR hr,aB (by unfold I64;omega),if_neg (by omega)];rfl),aA]
     ·have hB3:(B2++wC i (bB t i)).length<=30100:=by
       unfold wC;rw [zQL,fC (c:=1) (λ_=>rfl)];omega
      unfold wC at hB3 ⊢;generalize (B2++(List.range (bB t i)).flatMap λk=>[wRelD++nL i].map (nmB · k))=B3 at hB3;rw [jA (by omega) (show (⟨#[119,97,105,116]⟩:BA).size<=1000 by decide),aA,aB (by simp;omega),jA (by omega) (show (⟨#[115,116,97,110,100]⟩:BA).size<=1000 by decide),aA,aB (by simp;omega),aA,aB (bD hi (by omega))];rfl
     have hsz := sO i (by omega);have hrs:wRelD.size=4:=rfl
     have hlen3:(B2++(List.range k).flatMap λk=>[wRelD++nL i].map (nmB · k)).length<=30100:=by
      rw [zQL,fC (c:=1) (λ_=>rfl)];omega
     dsimp only;rw [aR hr,aB (by unfold I64;omega),if_pos (by omega),jA (by omega) (show (⟨#[114,101,108]⟩:BA).size<=1000 by decide),aA,show (nmB (⟨#[114,101,108]⟩:BA) i)=nmB qDU i from rfl,relD,jA (by omega) (by rw [ByteArray.size_append];omega),aA,aB (by rw [zQL];simp only [List.length_cons,List.length_nil];omega),aB (bD hk (by omega))];rfl
    dsimp only;rw [if_pos (by omega),jA (by omega) (show (⟨#[108,105,101]⟩:BA).size<=1000 by decide),aA,aB (by rw [zQL,zQL,hpi,h4];simp only [List.length_cons,List.length_nil];have:=hC.base t.Ac.length;have:=yH t;have he:kX t=dR t t.Ac.length:=rfl;omega),aB (bD hi (by omega))];rfl
   have hlen : ((((List.range t.Aa.toNat).flatMap nm1 ++ (List.range t.Ae.length).flatMap nm2)) ++ (List.range i).flatMap nm3).length <= 1000 := by simp only [zQL, h1, h2, h3]; omega
   generalize ((((List.range t.Aa.toNat).flatMap nm1++(List.range t.Ae.length).flatMap nm2))++(List.range i).flatMap nm3)=B at hlen;dsimp only;rw [if_pos (by omega),jA (by omega) (show (⟨#[117,110,99,108,97,105,109,101,100]⟩:BA).size<=1000 by decide),aA,aB (by simp;omega),jA (by omega) (show (⟨#[112,97,115,115,101,100]⟩:BA).size<=1000 by decide),aA,aB (by simp;omega),jA (by omega) (show (⟨#[99,97,108,108]⟩:BA).size<=1000 by decide),aA,aB (by simp;omega),jA (by omega) (show (⟨#[99,97,110,99,101,108]⟩:BA).size<=1000 by decide),aA,aB (by simp;omega),aB (bD hi (by omega))];simp only [List.append_assoc];rfl
  have hlen : ((List.range t.Aa.toNat).flatMap nm1 ++ (List.range i).flatMap nm2).length <= 1000 := by simp only [zQL, h1, h2]; omega
  generalize ((List.range t.Aa.toNat).flatMap nm1++(List.range i).flatMap nm2)=B at hlen;dsimp only;rw [if_pos (by omega),jA (by omega) (show (⟨#[110,111,114,109,97,108]⟩:BA).size<=1000 by decide),aA,aB (by simp;omega),jA (by omega) (show (⟨#[114,101,118,101,114,115,101]⟩:BA).size<=1000 by decide),aA,aB (by simp;omega),aB (bD hi (by omega))];simp only [List.append_assoc];rfl
 have hlen : ([] ++ (List.range i).flatMap nm1).length <= 1000 := by simp only [List.nil_append, h1]; omega
 generalize ([]++(List.range i).flatMap nm1)=B at hlen;dsimp only;rw [if_pos (by omega),jA (by omega) (show (⟨#[102,114,101,101]⟩:BA).size<=1000 by decide),aA,aB (by simp;omega),jA (by omega) (show (⟨#[111,112,101,110]⟩:BA).size<=1000 by decide),aA,aB (by simp;omega),aB (bD hi (by omega))];simp only [List.append_assoc];rfl
theorem qDN {α β:Type} {g:β->α->Option β} {Inv:β->Prop}:∀ {l:List α} {b:β},(∀ e∈l,∀ b b',Inv b->g b e=some b'->Inv b')->Inv b->∀ b',l.foldlM g b=some b'->Inv b'
 | [],b,_,h,b',hb=>by cases hb;exact h
 | e :: r,b,hg,h,b',hb=>by
  rw [List.foldlM_cons] at hb
  cases hx:g b e with
  | none=>rw [hx] at hb;cases hb
  | some c=>
   rw [hx] at hb;exact qDN (l:=r) (λe he=>hg e (List.mem_cons_of_mem _ he)) (hg e List.mem_cons_self b c h hx) b' hb
theorem qTI {σ ρ β α : Type} {f : σ -> Option (σ ⊕ ρ)} (l : List α) (st : β -> Nat -> σ) (g : β -> α -> Option β) (Inv : β -> Prop) (v : ρ) (o : β -> ρ) {b0 : β} {s : σ} (hs0 : s = st b0 0) (hn : l.length <= qTF) (hg : ∀ e ∈ l, ∀ b b', Inv b -> g b e = some b' -> Inv b') (h0 : Inv b0) (hs : ∀ i e b, l[i]? = some e -> Inv b -> f (st b i) = match g b e with
  | some b' => some (.inl (st b' (i + 1)))
  | none => some (.inr v)) (he : ∀ b, Inv b -> f (st b l.length) = some (.inr (o b))) :
  aW f s=some (match l.foldlM g b0 with|some b=>o b|none=>v):=by
 subst hs0
 have key:∀ (m:List α) (k:Nat) (b:β),l.drop k=m->k+m.length=l.length->Inv b->oB f (m.length+1) (st b k)=some (match m.foldlM g b with|some b=>o b|none=>v):=by
  intro m
  induction m with
  | nil=>
   intro k b hd hk hb;have hk2:k=l.length:=by simpa using hk
   subst hk2;simp [oB,he b hb]
  | cons e m ih=>
   intro k b hd hk hb;rw [List.length_cons] at hk
   have hx:l[k]?=some e:=by
    have:(l.drop k)[0]?=some e:=by rw [hd];rfl
    rw [List.getElem?_drop] at this;simpa using this
   have hd2:l.drop (k+1)=m:=by rw [<- List.tail_drop,hd];rfl
   have h1:=hs k e b hx hb;rw [List.length_cons,oB,h1,List.foldlM_cons]
   cases hc:g b e with
   | none=>rfl
   | some b'=>exact ih (k+1) b' hd2 (by omega) (hg e (zQM hx) b b' hb hc)
 have:=key l 0 b0 rfl (by omega) h0;exact wR this (by unfold eR qTF at *; omega)
end Go.Proofs.YtldaknhjmhlefaaGreatDoor
