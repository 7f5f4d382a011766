/- Texts of this proof, joined, without what it does not use. No condition. -/
import Derived.Test.YtcagmechagiclaaGreatDoorQq

set_option maxHeartbeats 8000000
set_option linter.unusedSimpArgs false
set_option linter.unusedVariables false
set_option maxRecDepth 20000
namespace Go.Proofs.YtcagmechagiclaaGreatDoor
open Go Go.TL
theorem kW {p0:(List Int)} {r:(List Int)} (hm:cT p0=some r):RetD Tryz.prog 64 [.sl 1 (p0.map (D.int .i64))] (.sl 1 (r.map (D.int .i64))):=by
 refine .of (mv:=λ_=>false) (aJ qYO Tryz.func64 Q Tryz.ntmps64 Q Q (λwX gX=>?_));unfold cT at hm;refine WN [0] Q Q (RS (SA TK Q (TN (WN [0] Q Q (TQ (RS (SA TK Q (qGA Q Tryz.underlying23 Q Q (λb1 hb1=>?_)))))))));refine TN (WN [0,4] Q Q ?_);refine TC _ Q (λh2=>?_) (λh2=>?_)
 ·obtain⟨hnb1,hm⟩:=qXK (hb1 h2) hm;subst hnb1;refine RS (SA TK Q (TN (qTG 2 [some 1] Q (WN [2] Q Q (TR (WR ?_))))));obtain rfl:=OJ hm;exact EndsS.one _ Q (.d _) (.refl _)
 replace hm:=qXL hm;refine TS (WT (WN [0] Q Q (RS (wZ (f:=(D.int .i64)) 0 [] ([]:List Int) TK Q Q Q lD Q Q Q Q Q (SA TK Q (GE hm λg3 hm=>gI (f:=(D.int .i64)) p0 TK Q Q lD Q Q Q Q Q (λh=>absurd h (zQV _)) Q fZ g3 Q Q (SA TK Q ?_)))))));refine TN (WN [2] Q Q (TR ?_));obtain rfl:=OJ hm;exact EndsS.one _ Q (dC Q) (.refl _)
theorem qBI {p0:Int} {p1:Bool} {r0:Int} {r1:Bool} (hm:nP p0 p1=some (r0,r1)):RetT Tryz.prog 123 [.int .i64 p0,.bool (p1)] [.int .i64 r0,.bool (r1)]:=by
 refine .of (mv:=λ_=>false) (uM zHG Tryz.func123 Q Tryz.ntmps123 Q Q (λwX gX=>?_));unfold nP at hm;refine WN [0,1] Q Q (RS (SA TK Q (SA TK Q (TN (WN [0,1] Q Q (RS ?_))))));iterate 4 (refine SA TK Q ?_)
 refine TN (WN [4,5] Q Q (TR ?_));obtain⟨rfl,rfl⟩:=Prod.mk.inj (Option.some.inj hm);exact EndsT.two Q (.d _) (.refl _) (.d _) (.refl _)
theorem qBH {p0:Int} {p1:Bool} {p2:Rung} {r0:Int} {r1:Bool} (hm:lE p0 p1 p2=some (r0,r1)):RetT Tryz.prog 124 [.int .i64 p0,.bool (p1),.ptr (p2.enc) 0] [.int .i64 r0,.bool (r1)]:=by
 refine .of (mv:=λ_=>false) (uM zHF Tryz.func124 Q Tryz.ntmps124 Q Q (λwX gX=>?_));unfold lE at hm;refine WN [0,1,2] Q Q (RS (SA TK Q (SA TK Q (TN (WN [0,1,2] Q Q (TQ (RS (SA TK Q (SA TK Q (TN ?_))))))))));refine WN [0,2,8] Q Q ?_;refine TC _ Q (λh1=>?_) (λh1=>?_)
 ·replace hm:=JA h1 hm;refine RS (SA TK Q (SA TK Q (TN (WN [5,6] Q Q (TR (WR ?_))))));obtain⟨rfl,rfl⟩:=Prod.mk.inj (Option.some.inj hm);exact EndsT.two Q (.d _) (.refl _) (.d _) (.refl _)
 replace hm:=JB h1 hm;refine TS (WT (WN [0,2] Q Q (TQ (RS ?_))));iterate 4 (refine SA TK Q ?_)
 refine TN (WN [0,2,12] Q Q ?_);refine TC _ Q (λh2=>?_) (λh2=>?_)
 ·replace hm:=JT h2 hm;refine TG (SA TK Q (GE hm λg3 hm=>SX Q Q (aY Q Q Q Q g3) (SA TK Q (TN (WT (WN [0,2] Q Q (bO follows  ?_)))))));iterate 6 (refine DA [] TK Q ?_)
  refine DT ?_ (by kernel_rfl);refine SA TK Q (TN (WN [5,6] Q Q (TR ?_)));obtain⟨rfl,rfl⟩:=Prod.mk.inj (Option.some.inj hm);exact EndsT.two Q (.d _) (.refl _) (.d _) (.refl _)
 replace hm:=JF h2 hm;refine TS (WT (WN [0,2] Q Q (bO follows  ?_)));iterate 6 (refine DA [] TK Q ?_)
 refine DT ?_ (by kernel_rfl);refine SA TK Q (TN (WN [5,6] Q Q (TR ?_)));obtain⟨rfl,rfl⟩:=Prod.mk.inj (Option.some.inj hm);exact EndsT.two Q (.d _) (.refl _) (.d _) (.refl _)
theorem qHX {p0:Rung} {r:Effect} (hm:oQ p0=some r):RetD Tryz.prog 65 [p0.enc] (r.enc):=by
 refine .of (mv:=λ_=>false) (aJ zLS Tryz.func65 Q Tryz.ntmps65 Q Q (λwX gX=>?_));unfold oQ at hm;refine WN [0] Q Q (RS (cZ 0 Q Q Q (cW 1 Q Q qMQ Q (TN (WN [1,2] Q Q (TQ (RS (SA TK Q (SA TK Q (SA TK Q ?_))))))))));refine TN (WN [1,2,5] Q Q ?_);refine TC _ Q (λh1=>?_) (λh1=>?_)
 ·replace hm:=dS h1 hm;refine RS (SX Q Q (cI Q zDI qMQ Q Q Q Q) (SA TK Q (TN (WN [2] Q Q (TR (WR ?_))))));obtain rfl:=OJ hm;exact EndsS.cellR _ TK Q Q Q Q Q (.d _)
 replace hm:=dT h1 hm;refine TS (WT (WN [1,2] Q Q (zHP 0 Q Q Q Q Q (RS (SA TK Q (SX Q Q (cI Q zDI qMQ Q Q Q Q) (SA TK Q (TN ?_))))))));refine WN [2] Q Q (TR ?_);obtain rfl:=OJ hm;exact EndsS.cellR _ TK Q Q Q Q Q (.d _)
theorem qKW {p0:Expr} {r:If_node} (hm:qP p0=some r):RetD Tryz.prog 156 [.ptr (p0.enc) 0] (r.enc):=by
 refine .of (mv:=λ_=>false) (aJ zGF Tryz.func156 Q Tryz.ntmps156 Q Q (λwX gX=>?_));unfold qP at hm;refine WN [0] Q Q (RS (SA TK Q (TN (WN [0] Q Q (TQ (RS ?_))))));iterate 4 (refine SA TK Q ?_)
 refine TN (WN [0,6] Q Q (TB (RS (SA TK Q (SA TK Q (TN (WN [0,6,7] Q Q ?_)))))));refine TC _ Q (λh1=>?_) (λh1=>?_)
 ·replace hm:=JT h1 hm;refine RS (SA TK Q (SX Q Q (cI Q plc180 qMP Q Q Q Q) (SA TK Q (SA TK Q (TN (WN [2] Q Q (TR (WB (WR ?_)))))))));obtain rfl:=OJ hm;exact EndsS.one _ Q (.d _) (.refl _)
 replace hm:=JF h1 hm;refine RS (SA TK Q (SA TK Q (TN (WN [0,6,12] Q Q ?_))));refine TC _ Q (λh2=>?_) (λh2=>?_)
 ·replace hm:=JT h2 hm;refine RS ?_;iterate 4 (refine SA TK Q ?_)
  refine SX Q Q (aP TK Q Q Q) (SA TK Q (TN (WN [0,19] Q Q ?_)));refine TC _ Q (λh3=>?_) (λh3=>?_)
  ·replace hm:=JT h3 hm;refine RS (SA TK Q (SX Q Q (cI Q plc181 qMO Q Q Q Q) (SA TK Q (SA TK Q (TN (WN [2] Q Q (TR (WB (WR ?_)))))))));obtain rfl:=OJ hm;exact EndsS.one _ Q (.d _) (.refl _)
  replace hm:=JF h3 hm;refine TS (WK (WT (WN [0] Q Q (RS (SA TK Q (SX Q Q (cI Q zDG qWO Q Q Q Q) (SA TK Q (SA TK Q (TN ?_)))))))));refine WN [2] Q Q (TR ?_);obtain rfl:=OJ hm;exact EndsS.one _ Q (.d _) (.refl _)
 replace hm:=JF h2 hm;refine RS (SA TK Q (SA TK Q (TN (WN [0,6,23] Q Q ?_))));refine TC _ Q (λh4=>?_) (λh4=>?_)
 ·replace hm:=JT h4 hm;refine RS (SA TK Q (SX Q Q (cI Q plc182 qMN Q Q Q Q) (SA TK Q (SA TK Q (TN (WN [2] Q Q (TR (WB (WR ?_)))))))));obtain rfl:=OJ hm;exact EndsS.one _ Q (.d _) (.refl _)
 replace hm:=JF h4 hm;refine RS (SA TK Q (SA TK Q (TN (WN [0,28] Q Q ?_))));refine TC _ Q (λh5=>?_) (λh5=>?_)
 ·replace hm:=JT h5 hm;refine RS (SA TK Q (SX Q Q (cI Q plc183 qMM Q Q Q Q) (SA TK Q (SA TK Q (TN (WN [2] Q Q (TR (WB (WR ?_)))))))));obtain rfl:=OJ hm;exact EndsS.one _ Q (.d _) (.refl _)
 replace hm:=JF h5 hm;refine TS (WK (WT (WN [0] Q Q (RS (SA TK Q (SX Q Q (cI Q zDG qWO Q Q Q Q) (SA TK Q (SA TK Q (TN ?_)))))))));refine WN [2] Q Q (TR ?_);obtain rfl:=OJ hm;exact EndsS.one _ Q (.d _) (.refl _)
theorem qOU:∀ (fu:Nat) {p0:Expr} {p1:(List Bool)} {r:Bool} (hm:iU fu p0 p1=some r),RetN Tryz.prog 125 [.ptr (p0.enc) 0,.sl 1 (p1.map D.bool)] (.bool (r)):=by
 intro fu
 induction fu with
 | zero=>
  intro p0 p1 r hm;unfold iU at hm;cases hm
 | succ fu ih=>
  intro p0 p1 r hm;refine .unit (aJ zHE Tryz.func125 Q Tryz.ntmps125 Q Q (λwX gX=>?_)) Q;unfold iU at hm;refine WN [0,1] Q Q (RS (SA TK Q (TN (WN [0,1] Q Q ?_))));refine cM hm (λ_=>([]:Fr)) (λ_=>([]:List (Nat×Blk))) [] [0] Q (λz1 hm hz1=>?_) (λj hm=>?_)
  ·refine RS (SA TK Q (BE hm λr2 hr2 hm=>SX Q Q (RD Q Q Q (qKW hr2)) (TN (WN [0,1,12] Q Q (TB (RS ?_))))));by_cases h3:r2.tid=180
   ·rw [if_pos h3] at hm;refine SX Q Q (qWT Q qYJ Q h3) (SA TK Q (SA TK Q (TN (WN [0,1,12,14,15] Q Q ?_))));refine TC true Q (λ_=>?_) (λh=>by cases h);refine RS (cW 0 Q Q qMP Q (SA TK Q (TN (WN [1,5] Q Q ?_))));refine aL hm (λx4=>([(4,.d (.bool (x4)))]:Fr)) (λx4=>([]:List (Nat×Blk))) [4] [] Q (λz5 hm=>?_) (λx4 hm=>?_)
    ·refine TG ?_;iterate 6 (refine SA TK Q ?_)
     refine SB TK Q (λq6 hq6=>?_);cases q6
     ·replace hm:=JF hq6 hm;iterate 20 (refine SA TK Q ?_)
      refine TN (WT ?_);exact⟨_,[0],(SJ hm),Q,k0,Q⟩
     replace hm:=JT hq6 hm;iterate 6 (refine SA TK Q ?_)
     refine SX Q Q (aP TK Q Q Q) (SA TK Q (SA TK Q (SB TK Q (λq7 hq7=>?_))));cases q7
     ·replace hm:=JF hq7 hm;iterate 10 (refine SA TK Q ?_)
      refine TN (WT ?_);exact⟨_,[0],(SJ hm),Q,k0,Q⟩
     replace hm:=JT hq7 hm;iterate 6 (refine SA TK Q ?_)
     refine VE hm λe8 he8 hm=>SX Q Q (bZ TK Q Q Q Q he8) (SA TK Q (SA TK Q (SA TK Q (TN (WT ?_)))));exact⟨_,[0],(SJ hm),Q,k0,Q⟩
    refine WN [4] Q Q (TR (WB (IE hm λv9 hm hz=>?_)));rw [hz1 _ hz] at hm;refine WR ?_;obtain rfl:=OJ hm;exact EndsS.one _ Q (.d _) (.refl _)
   rw [if_neg h3] at hm;refine SX Q Q (qWU Q qYJ Q h3 qMP Q) (SA TK Q (SA TK Q (TN (WN [0,1,12,14] Q Q (TC false Q (λh=>by cases h) (λ_=>RS ?_))))));by_cases h10:r2.tid=181
   ·rw [if_pos h10] at hm;refine SX Q Q (qWT Q qYI Q h10) (SA TK Q (SA TK Q (TN (WN [0,1,12,43,44] Q Q ?_))));refine TC true Q (λ_=>?_) (λh=>by cases h);refine RS (cW 0 Q Q qMO Q (SA TK Q (TN (WN [1,6] Q Q (RS ?_)))));iterate 5 (refine SA TK Q ?_)
    refine VE hm λe11 he11 hm=>SX Q Q (qWS TK Q Q Q Q he11 (Expr.encR_eq _)) (SA TK Q (BE hm λr12 hr12 hm=>SX Q Q (RN Q Q (SC (.d _) (SC (.d _) SN)) (ih hr12)) (SA TK Q (SA TK Q (TN (WN [4] Q Q (TR ?_)))))));refine WB (IE hm λv13 hm hz=>?_);rw [hz1 _ hz] at hm;refine WR ?_;obtain rfl:=OJ hm;exact EndsS.one _ Q (.d _) (.refl _)
   rw [if_neg h10] at hm;refine SX Q Q (qWU Q qYI Q h10 qMO Q) (SA TK Q (SA TK Q (TN (WN [0,1,12,43] Q Q (TC false Q (λh=>by cases h) (λ_=>RS ?_))))));by_cases h14:r2.tid=182
   ·rw [if_pos h14] at hm;refine SX Q Q (qWT Q qYH Q h14) (SA TK Q (SA TK Q (TN (WN [0,1,12,55,56] Q Q ?_))));refine TC true Q (λ_=>?_) (λh=>by cases h);refine RS (cW 0 Q Q qMN Q (SA TK Q (TN (WN [1,7] Q Q ?_))));refine cM hm (λ_=>([]:Fr)) (λ_=>([]:List (Nat×Blk))) [] [] Q (λz15 hm hz15=>?_) (λj hm=>?_)
    ·refine RS ?_;iterate 5 (refine SA TK Q ?_)
     refine SX Q Q (aP TK Q Q Q) (SA TK Q (TN (WN [1,7,62,63] Q Q (TB (aZ hm (λx17=>([(63,.d (.int .i64 x17))]:Fr)) (λx17=>([]:List (Nat×Blk))) [63] [1,7,62] [0] Q k0 Q Q Q Q Q (λx17 z18 hm hz18=>WN [1,7,62,63] Q Q (RS (SA TK Q ?_))))))));refine TN (WN [1,7,62,63,64] Q Q (TQ ?_));refine TC _ Q (λh19=>?_) (λh19=>?_)
     ·replace hm:=JT h19 hm;refine TS (WT (WN [1,7,62,63] Q Q (TQ (TB (RS (SA TK Q (SA TK Q (TN (WN [1,7,8,62,63] Q Q ?_)))))))));refine RS ?_;iterate 6 (refine SA TK Q ?_)
      refine VE hm λe20 he20 hm=>SX Q Q (qWS TK Q Q Q Q he20 (Expr.encR_eq _)) (SA TK Q (BE hm λr21 hr21 hm=>SX Q Q (RN Q Q (SC (.d _) (SC (.d _) SN)) (ih hr21)) (SA TK Q (TN (WN [1,7,62,63,75] Q Q ?_)))));refine TC _ Q (λh22=>?_) (λh22=>?_)
      ·replace hm:=JA h22 hm;refine RS (SA TK Q (TN (WN [4] Q Q (TR (WB (WR (IE hm λv23 hm hz=>?_)))))));rw [hz18 _ hz] at hm;refine WR (WB (IE hm λv24 hm hz=>?_));rw [hz15 _ hz] at hm;refine WR (WB (IE hm λv25 hm hz=>?_));rw [hz1 _ hz] at hm;refine WR ?_;obtain rfl:=OJ hm;exact EndsS.one _ Q (.d _) (.refl _)
      replace hm:=JB h22 hm;refine TS (WK (WT (WN [1,7,62,63] Q Q (TG (GE hm λg26 hm=>SX Q Q (aY Q Q Q Q g26) (SA TK Q (TN ?_)))))));refine WT ?_;exact⟨_,[0],(SJ hm),Q,k0,Q⟩
     replace hm:=JF h19 hm;refine aI (WX (IE hm λv27 hm hz=>?_));rw [hz18 _ hz] at hm;refine WX (WH (WT ?_));exact⟨_,[0],(SJ hm),Q,k0,Q⟩
    refine WN [] Q Q (RS (SA TK Q (TN (WN [4] Q Q (TR (WB (IE hm λv28 hm hz=>?_)))))));rw [hz1 _ hz] at hm;refine WR ?_;obtain rfl:=OJ hm;exact EndsS.one _ Q (.d _) (.refl _)
   rw [if_neg h14] at hm;refine SX Q Q (qWU Q qYH Q h14 qMN Q) (SA TK Q (SA TK Q (TN (WN [0,1,12,55] Q Q (TC false Q (λh=>by cases h) (λ_=>RS ?_))))));by_cases h29:r2.tid=183
   ·rw [if_pos h29] at hm;refine SX Q Q (qWT Q qYG Q h29) (SA TK Q (SA TK Q (TN (WN [0,1,78,79] Q Q ?_))));refine TC true Q (λ_=>?_) (λh=>by cases h);refine RS (cW 0 Q Q qMM Q (SA TK Q (TN (WN [1,9] Q Q ?_))));refine cM hm (λ_=>([]:Fr)) (λ_=>([]:List (Nat×Blk))) [] [] Q (λz30 hm hz30=>?_) (λj hm=>?_)
    ·refine RS ?_;iterate 5 (refine SA TK Q ?_)
     refine SX Q Q (aP TK Q Q Q) (SA TK Q (TN (WN [1,9,85,86] Q Q (TB (aZ hm (λx32=>([(86,.d (.int .i64 x32))]:Fr)) (λx32=>([]:List (Nat×Blk))) [86] [1,9,85] [0] Q k0 Q Q Q Q Q (λx32 z33 hm hz33=>WN [1,9,85,86] Q Q (RS (SA TK Q ?_))))))));refine TN (WN [1,9,85,86,87] Q Q (TQ ?_));refine TC _ Q (λh34=>?_) (λh34=>?_)
     ·replace hm:=JT h34 hm;refine TS (WT (WN [1,9,85,86] Q Q (TQ (TB (RS (SA TK Q (SA TK Q (TN (WN [1,9,10,85,86] Q Q ?_)))))))));refine RS ?_;iterate 6 (refine SA TK Q ?_)
      refine VE hm λe35 he35 hm=>SX Q Q (qWS TK Q Q Q Q he35 (Expr.encR_eq _)) (SA TK Q (BE hm λr36 hr36 hm=>SX Q Q (RN Q Q (SC (.d _) (SC (.d _) SN)) (ih hr36)) (TN (WN [1,9,85,86,97] Q Q ?_))));refine TC _ Q (λh37=>?_) (λh37=>?_)
      ·replace hm:=JA h37 hm;refine RS (SA TK Q (TN (WN [4] Q Q (TR (WB (WR (IE hm λv38 hm hz=>?_)))))));rw [hz33 _ hz] at hm;refine WR (WB (IE hm λv39 hm hz=>?_));rw [hz30 _ hz] at hm;refine WR (WB (IE hm λv40 hm hz=>?_));rw [hz1 _ hz] at hm;refine WR ?_;obtain rfl:=OJ hm;exact EndsS.one _ Q (.d _) (.refl _)
      replace hm:=JB h37 hm;refine TS (WK (WT (WN [1,9,85,86] Q Q (TG (GE hm λg41 hm=>SX Q Q (aY Q Q Q Q g41) (SA TK Q (TN ?_)))))));refine WT ?_;exact⟨_,[0],(SJ hm),Q,k0,Q⟩
     replace hm:=JF h34 hm;refine aI (WX (IE hm λv42 hm hz=>?_));rw [hz33 _ hz] at hm;refine WX (WH (WT ?_));exact⟨_,[0],(SJ hm),Q,k0,Q⟩
    refine WN [] Q Q (RS (SA TK Q (TN (WN [4] Q Q (TR (WB (IE hm λv43 hm hz=>?_)))))));rw [hz1 _ hz] at hm;refine WR ?_;obtain rfl:=OJ hm;exact EndsS.one _ Q (.d _) (.refl _)
   rw [if_neg h29] at hm;refine SX Q Q (qWU Q qYG Q h29 qMM Q) (SA TK Q (SA TK Q (TN (WN [0,1,78] Q Q (TC false Q (λh=>by cases h) (λ_=>TS (WK (WT ?_))))))));exact⟨_,[],(SJ hm),Q,k0,Q⟩
  refine WN [0] Q Q (RS ?_);iterate 6 (refine SA TK Q ?_)
  refine TN (WN [4] Q Q (TR ?_));obtain rfl:=OJ hm;exact EndsS.one _ Q (.d _) (.refl _)
theorem qST {p0:Expr} {p1:(List Bool)} {r:Bool} (hm:qEG p0 p1=some r):RetN Tryz.prog 125 [.ptr (p0.enc) 0,.sl 1 (p1.map D.bool)] (.bool (r)):=qOU kN hm
theorem qSU {p0:Expr} {p1:(List Bool)} {r:Bool} (hm:uT p0 p1=some r):RetN Tryz.prog 66 [p0.enc,.sl 1 (p1.map D.bool)] (.bool (r)):=by
 refine .unit (aJ zLR Tryz.func66 Q Tryz.ntmps66 Q Q (λwX gX=>?_)) Q;unfold uT at hm;refine WN [0,1] Q Q (RS (cZ 0 Q Q Q (SA TK Q (TN (WN [1,2] Q Q (zHP 0 Q Q Q Q Q (RS (SA TK Q ?_))))))));refine BE hm λr1 hr1 hm=>SX Q Q (RN Q Q (SC (.d _) (SC (.d _) SN)) (qST hr1)) (SA TK Q (TN (WN [4] Q Q (TR ?_))));obtain rfl:=OJ hm;exact EndsS.one _ Q (.d _) (.refl _)
theorem qKF {p0:Program} {r:Machine} (hm:mU p0=some r):Ret Tryz.prog 22 [] (λ_=>false) ([p0.enc].map .d) (.agg [.msl 0 1 0 r.vars.length,.msl 1 1 0 r.counts.length,.d (.bool (r.halted))]) [.flat 4 1 (r.vars.map D.bool),.flat 3 1 (r.counts.map (D.int .i64))]:=by
 refine dE qYP Tryz.func22 Q Tryz.ntmps22 Q Q (λwX gX=>?_);unfold mU at hm;refine WN [0] Q Q (RS (cZ 0 Q Q Q (cW 1 Q Q oJ Q (gN (f:=D.bool) 1 0 2 4 1 Q Q Q (gN (f:=(D.int .i64)) 1 1 3 3 1 Q Q Q (TN (WN [1,2] Q Q (TQ ?_))))))));refine RS (SA TK Q (BE hm λr1 hr1 hm=>SX Q Q (RN Q Q (SC (.d _) SN) (xK hr1)) (SA TK Q (TN (WN [1,2,5] Q Q ?_)))));refine TC _ Q (λh2=>?_) (λh2=>?_)
 ·replace hm:=dS h2 hm;refine RS (SX Q Q (iF Q qRC oJ Q Q Q Q) (SA TK Q (gN (f:=D.bool) 1 0 4 4 1 Q Q Q (gN (f:=(D.int .i64)) 1 1 5 3 1 Q Q Q (TN (WN [2] Q Q (TR (WR ?_))))))));obtain rfl:=OJ hm;exact⟨_,[4,5],.mk _ (.cons (.agg (TK.lay Q) Q Q Q Q) .nil) Q,by decide,k0,Q,Q⟩
 replace hm:=dT h2 hm;refine TS (WT (WN [1,2] Q Q (eM (eM (bO follows  (DA [] TK Q (DA [0] TK Q (DX [] Q Q (aP TK Q Q Q) ?_))))))));refine GE hm λg3 hm=>rO [4] _ (.msl 4 1 0 (List.replicate (p0.names.length:Int).toNat false).length) Q (iS Q) Q (zNR (f:=D.bool) (x:=false) TK Q Q Q oK Q Q Q Q Q g3 Q) (DA [] TK Q (DA [0] TK Q (DX [] Q Q (aP TK Q Q Q) (GE hm λg4 hm=>rO [5] _ (.msl 5 1 0 (List.replicate (p0.rungs.length:Int).toNat (0:Int)).length) Q (iS Q) Q (zNR (f:=(D.int .i64)) (x:=(0:Int)) TK Q Q Q lD Q Q Q Q Q g4 Q) (DX [] Q Q (iF Q qRC oJ Q Q Q Q) ?_)))));refine DT ?_ (by kernel_rfl);refine SA TK Q (TN (WN [2] Q Q (TR ?_)));obtain rfl:=OJ hm;exact⟨_,[4,5],.mk _ (.cons (.agg (TK.lay Q) Q Q Q Q) .nil) Q,by decide,k0,Q,Q⟩
theorem qNO {p0:Program} {r:Machine} (hm:xJ p0=some r):Ret Tryz.prog 24 [] (λ_=>false) ([p0.enc].map .d) (.agg [.msl 0 1 0 r.vars.length,.msl 1 1 0 r.counts.length,.d (.bool (r.halted))]) [.flat 4 1 (r.vars.map D.bool),.flat 3 1 (r.counts.map (D.int .i64))]:=by
 refine dE zMU Tryz.func24 Q Tryz.ntmps24 Q Q (λwX gX=>?_);unfold xJ at hm;refine WN [0] Q Q (RS (cZ 0 Q Q Q (cW 1 Q Q oJ Q (gN (f:=D.bool) 1 0 2 4 1 Q Q Q (gN (f:=(D.int .i64)) 1 1 3 3 1 Q Q Q (TN (WN [1,2] Q Q (RS ?_))))))));refine SA TK Q (BE hm λr1 hr1 hm=>yM Q Q Q (qKF hr1) Q Q (qZJ 5 (.agg [.msl 4 1 0 r1.vars.length,.msl 5 1 0 r1.counts.length,.d (.bool (r1.halted))]) Q Q (cW 6 Q Q oJ Q (gN (f:=D.bool) 6 0 7 4 1 Q Q Q (gN (f:=(D.int .i64)) 6 1 8 3 1 Q Q Q (SA TK Q (TN ?_)))))));refine WN [2,3] Q Q (RS (SA TK Q (SA TK Q (TN (WN [2,3] Q Q (RS (SA TK Q (SA TK Q (TN (WN [2] Q Q ?_))))))))));refine TR ?_;obtain rfl:=OJ hm;exact⟨_,[4,5],.mk _ (.cons (.agg (TK.lay Q) Q Q Q Q) .nil) Q,by decide,k0,Q,Q⟩
theorem wL {p0:(List Bool)} {r:(List Bool)} (hm:jY p0=some r):Ret Tryz.prog 63 [] (λ_=>false) ([.sl 1 (p0.map D.bool)].map .d) (.msl 0 1 0 r.length) [.flat 4 1 (r.map D.bool)]:=by
 refine dE zLT Tryz.func63 Q Tryz.ntmps63 Q Q (λwX gX=>?_);unfold jY at hm;refine WN [0] Q Q (RS (mC (f:=D.bool) 0 4 1 Q Q Q (TN (WN [0] Q Q (TQ (RS (SA TK Q (qGA Q Tryz.underlying41 Q Q (λb1 hb1=>?_)))))))));refine TN (WN [0,4] Q Q ?_);refine TC _ Q (λh2=>?_) (λh2=>?_)
 ·obtain⟨hnb1,hm⟩:=qXK (hb1 h2) hm;subst hnb1;refine RS (mC (f:=D.bool) 1 4 1 Q Q Q (TN (WN [2] Q Q (TR (WR ?_)))));obtain rfl:=OJ hm;exact⟨_,[1],res Q,by decide,k0,Q,Q⟩
 replace hm:=qXL hm;refine TS (WT (WN [0] Q Q (RS (wZ (f:=D.bool) 1 [] ([]:List Bool) TK Q Q Q oK Q Q Q Q Q (SA TK Q (GE hm λg3 hm=>gI (f:=D.bool) p0 TK Q Q oK Q Q Q Q Q (λh=>absurd h (zQV _)) Q fZ g3 Q Q (SA TK Q ?_)))))));refine TN (WN [2] Q Q (TR ?_));obtain rfl:=OJ hm;exact⟨_,[1],res Q,by decide,k0,Q,Q⟩
theorem mB {p0:(List Int)} {r:(List Int)} (hm:cT p0=some r):Ret Tryz.prog 64 [] (λ_=>false) ([.sl 1 (p0.map (D.int .i64))].map .d) (.msl 0 1 0 r.length) [.flat 3 1 (r.map (D.int .i64))]:=by
 refine dE qYO Tryz.func64 Q Tryz.ntmps64 Q Q (λwX gX=>?_);unfold cT at hm;refine WN [0] Q Q (RS (mC (f:=(D.int .i64)) 0 3 1 Q Q Q (TN (WN [0] Q Q (TQ (RS (SA TK Q (qGA Q Tryz.underlying23 Q Q (λb1 hb1=>?_)))))))));refine TN (WN [0,4] Q Q ?_);refine TC _ Q (λh2=>?_) (λh2=>?_)
 ·obtain⟨hnb1,hm⟩:=qXK (hb1 h2) hm;subst hnb1;refine RS (mC (f:=(D.int .i64)) 1 3 1 Q Q Q (TN (WN [2] Q Q (TR (WR ?_)))));obtain rfl:=OJ hm;exact⟨_,[1],res Q,by decide,k0,Q,Q⟩
 replace hm:=qXL hm;refine TS (WT (WN [0] Q Q (RS (wZ (f:=(D.int .i64)) 1 [] ([]:List Int) TK Q Q Q lD Q Q Q Q Q (SA TK Q (GE hm λg3 hm=>gI (f:=(D.int .i64)) p0 TK Q Q lD Q Q Q Q Q (λh=>absurd h (zQV _)) Q fZ g3 Q Q (SA TK Q ?_)))))));refine TN (WN [2] Q Q (TR ?_));obtain rfl:=OJ hm;exact⟨_,[1],res Q,by decide,k0,Q,Q⟩
theorem qAH {p0:Program} {p1:Machine} {p2:(List Bool)} {r:Machine} (hm:qJ p0 p1 p2=some r):RetD Tryz.prog 23 [p0.enc,p1.enc,.sl 1 (p2.map D.bool)] (r.enc):=by
 refine .of (mv:=λ_=>false) (aJ zMV Tryz.func23 Q Tryz.ntmps23 Q Q (λwX gX=>?_));unfold qJ at hm;refine WN [0,1,2] Q Q (RS (cZ 0 Q Q Q (cZ 1 Q Q Q (cW 2 Q Q oJ Q (gN (f:=D.bool) 2 0 3 4 1 Q Q Q (gN (f:=(D.int .i64)) 2 1 4 3 1 Q Q Q (TN (WN [2,3,4,6] Q Q ?_))))))));refine TQ ?_;refine aL hm (λx1=>([(18,.d (.bool (x1)))]:Fr)) (λx1=>([]:List (Nat×Blk))) [18] [2,3,4,6] Q (λz2 hm=>?_) (λx1 hm=>?_)
 ·refine TG (SA TK Q (SA TK Q (SB TK Q (λq3 hq3=>?_))));cases q3
  ·replace hm:=JB hq3 hm;refine SA TK Q (SA TK Q (BE hm λr4 hr4 hm=>SX Q Q (RN Q Q (SC (.d _) (SC (.d _) SN)) (qUZ hr4)) (SA TK Q (SA TK Q (TN (WT ?_))))));exact⟨_,[0,1,2,3,4],(SJ hm),Q,k0,Q⟩
  replace hm:=JA hq3 hm;iterate 5 (refine SA TK Q ?_)
  refine TN (WT ?_);exact⟨_,[0,1,2,3,4],(SJ hm),Q,k0,Q⟩
 refine WN [2,3,4,6,18] Q Q ?_;refine TC _ Q (λh5=>?_) (λh5=>?_)
 ·replace hm:=JA h5 hm;refine RS (SA TK Q (BE hm λr6 hr6 hm=>yM Q Q Q (qNO hr6) Q Q (qZJ 20 (.agg [.msl 5 1 0 r6.vars.length,.msl 6 1 0 r6.counts.length,.d (.bool (r6.halted))]) Q Q (SA TK Q (TN (WN [6] Q Q (TR ?_)))))));refine WR ?_;obtain rfl:=OJ hm;exact EndsS.cellR _ TK Q Q Q Q Q (iZ (.cons (dC Q) Q (.cons (dC Q) Q (.cons (.d _) Q .nil))))
 replace hm:=JB h5 hm;refine TS (WT (WN [2,3,4,6] Q Q (eM (eM (eM (bO follows  (DA [] TK Q (DA [1] TK Q ?_))))))));refine BE hm λr7 hr7 hm=>?_;refine rO [5] [(5,.flat 4 1 (r7.map D.bool))] (.msl 5 1 0 r7.length) Q (iS Q) Q (uD (Bs:=[.flat 4 1 (r7.map D.bool)]) [5] (by intro i h;simp only [zQB,List.not_mem_nil,or_false] at h;rcases h with rfl<;>rfl) (by decide) Q Q Q Q (wL hr7) (by intro B h;simp only [zQB,List.not_mem_nil,or_false] at h;rcases h with rfl<;>exact rV (λ_=>Q)) (.msl _ _ _ _) Q (by intro B h;simp only [zQB,List.not_mem_nil,or_false] at h;rcases h with rfl<;>rfl)) ?_;refine DA [] TK Q (DA [1] TK Q (BE hm λr8 hr8 hm=>?_));refine rO [6] [(6,.flat 3 1 (r8.map (D.int .i64)))] (.msl 6 1 0 r8.length) Q (iS Q) Q (uD (Bs:=[.flat 3 1 (r8.map (D.int .i64))]) [6] (by intro i h;simp only [zQB,List.not_mem_nil,or_false] at h;rcases h with rfl<;>rfl) (by decide) Q Q Q Q (mB hr8) (by intro B h;simp only [zQB,List.not_mem_nil,or_false] at h;rcases h with rfl<;>exact rV (λ_=>Q)) (.msl _ _ _ _) Q (by intro B h;simp only [zQB,List.not_mem_nil,or_false] at h;rcases h with rfl<;>rfl)) ?_;refine DX [] Q Q (iF Q qRC oJ Q Q Q Q) (rO [7] _ (.mptr 7 0 0 0) Q (iS Q) Q (kV Q Q oJ Q Q) ?_);refine DT ?_ (by kernel_rfl);refine SA TK Q (TN (WN [2,3,6,7] Q Q ?_));refine aL hm (λb9=>([]:Fr)) (λb9=>([(5,.flat 4 1 (b9.map D.bool)),(7,.box 48 [.msl 5 1 0 b9.length,.msl 6 1 0 r8.length,.d (.bool (false))])]:List (Nat×Blk))) [] [3,6,7] Q (λz10 hm=>?_) (λb9 hm=>?_)
 ·refine RS (SA TK Q (SA TK Q (SA TK Q (TN (WN [2,3,6,7,29,30] Q Q (TB (aZ hm (λ(x14,b15)=>([(30,.d (.int .i64 x14))]:Fr)) (λ(x14,b15)=>([(5,.flat 4 1 (b15.map D.bool)),(7,.box 48 [.msl 5 1 0 b15.length,.msl 6 1 0 r8.length,.d (.bool (false))])]:List (Nat×Blk))) [30] [2,3,6,7,29] [0,1,2,3,4,5,6,7] Q k0 Q Q Q Q Q (λs z16 hm hz16=>?_))))))));obtain⟨x14,b15⟩:=s;refine WN [2,3,6,7,29,30] Q Q (RS (SA TK Q (TN (WN [2,3,6,7,29,30,31] Q Q (TQ ?_)))));refine TC _ Q (λh17=>?_) (λh17=>?_)
  ·replace hm:=JT h17 hm;refine TS (WT (WN [2,3,6,7,29,30] Q Q (TQ (TB (RS (SA TK Q (SA TK Q (TN (WN [2,3,6,7,8,29,30] Q Q ?_)))))))));refine cU follows  ?_;iterate 5 (refine DA [0,1,2,3,4,5,6,7] TK Q ?_)
   refine DX [0,1,2,3,4,5,6,7] Q Q (aP TK Q Q Q) (DA [0,1,2,3,4,5,6,7] TK Q (d_b [0,1,2,3,4,5,6,7] TK Q (λq18 hq18=>?_)));cases q18
   ·replace hm:=JF hq18 hm;iterate 5 (refine DA [0,1,2,3,4,5,6,7] TK Q ?_)
    refine VE hm λe19 he19 hm=>DX [0,1,2,3,4,5,6,7] Q Q (pF TK Q Q Q Q he19 Q) ?_;refine DT ?_ (by kernel_rfl);refine wY (x':=false) TK Q Q Q Q Q he19.2 Q Q Q (mD 34 (b15.set x14.toNat false).length Q List.length_set.symm ?_);refine qAZ 7 [.msl 5 1 0 (b15.set x14.toNat false).length,.msl 6 1 0 r8.length,.d (.bool (false))] Q (by simp only [List.length_set]) ?_;refine TN (WK (WT (WN [2,3,6,7,29,30] Q Q (TG (GE hm λg20 hm=>SX Q Q (aY Q Q Q Q g20) (SA TK Q (TN ?_)))))));refine WT ?_;exact⟨_,[0,1,2,3,4,5,6,7],(SJ hm),Q,k0,Q⟩
   replace hm:=JT hq18 hm;iterate 2 (refine DA [0,1,2,3,4,5,6,7] TK Q ?_)
   refine VE hm λe21 he21 hm=>DX [0,1,2,3,4,5,6,7] Q Q (bZ TK Q Q Q Q he21) ?_;iterate 2 (refine DA [0,1,2,3,4,5,6,7] TK Q ?_)
   refine VE hm λe22 he22 hm=>DX [0,1,2,3,4,5,6,7] Q Q (pF TK Q Q Q Q he22 Q) ?_;refine DT ?_ (by kernel_rfl);refine wY (x':=e21) TK Q Q Q Q Q he22.2 Q Q Q (mD 34 (b15.set x14.toNat e21).length Q List.length_set.symm ?_);refine qAZ 7 [.msl 5 1 0 (b15.set x14.toNat e21).length,.msl 6 1 0 r8.length,.d (.bool (false))] Q (by simp only [List.length_set]) ?_;refine TN (WK (WT (WN [2,3,6,7,29,30] Q Q (TG (GE hm λg23 hm=>SX Q Q (aY Q Q Q Q g23) (SA TK Q (TN ?_)))))));refine WT ?_;exact⟨_,[0,1,2,3,4,5,6,7],(SJ hm),Q,k0,Q⟩
  replace hm:=JF h17 hm;refine aI (WX (IE hm λv24 hm hz=>?_));rw [hz16 _ hz] at hm;refine WX (WH (WT ?_));exact⟨_,[0,1,2,3,4,5,6,7],(SJ hm),Q,k0,Q⟩
 refine WN [3,6,7] Q Q ?_;refine aL hm (λ(b25,b26)=>([]:Fr)) (λ(b25,b26)=>([(5,.flat 4 1 (b25.map D.bool)),(6,.flat 3 1 (b26.map (D.int .i64))),(7,.box 48 [.msl 5 1 0 b25.length,.msl 6 1 0 b26.length,.d (.bool (false))])]:List (Nat×Blk))) [] [6,7] Q (λz27 hm=>?_) (λj hm=>?_)
 ·refine RS (SA TK Q (SA TK Q (SX Q Q (aP TK Q Q Q) (SA TK Q (TN (WN [6,7,49,50,51] Q Q (TB (aZ hm (λ(x32,b33,b34)=>([(51,.d (.int .i64 x32))]:Fr)) (λ(x32,b33,b34)=>([(5,.flat 4 1 (b33.map D.bool)),(6,.flat 3 1 (b34.map (D.int .i64))),(7,.box 48 [.msl 5 1 0 b33.length,.msl 6 1 0 b34.length,.d (.bool (false))])]:List (Nat×Blk))) [51] [6,7,49,50] [0,1,2,3,4,5,6,7] Q k0 Q Q Q Q Q (λs z35 hm hz35=>?_)))))))));obtain⟨x32,b33,b34⟩:=s;refine WN [6,7,49,50,51] Q Q (RS (SA TK Q (TN (WN [6,7,49,50,51,52] Q Q (TQ ?_)))));refine TC _ Q (λh36=>?_) (λh36=>?_)
  ·replace hm:=JT h36 hm;refine TS (WT (WN [6,7,49,50,51] Q Q (TQ (TB (RS (SA TK Q (VE hm λe37 he37 hm=>SX Q Q (bZ TK Q Q Q Q he37) ?_)))))));refine SA TK Q (cW 8 Q Q pK Q (dK 8 [none,none,none,none,none,some 3] Q Q (SA TK Q (SA TK Q (TN (WN [6,7,9,10,49,50,51] Q Q (cU follows  (DA [] TK Q (DA [7] TK Q ?_)))))))));iterate 2 (refine DA [] TK Q ?_)
   refine DA [7] TK Q (DA [] TK Q ?_);iterate 2 (refine DA [8] TK Q ?_)
   refine BE hm λr38 hr38 hm=>DX [] Q Q (RD Q Q Q (qHX hr38)) ?_;iterate 2 (refine DA [] TK Q ?_)
   refine DA [7] TK Q (DA [] TK Q (VE hm λe39 he39 hm=>DX [] Q Q (pF TK Q Q Q Q he39 Q) (DX [6] Q Q (qGX TK Q Q Q Q he39.2 Q) (DA [] TK Q (DA [8] TK Q (DA [] TK Q (DA [7] TK Q ?_)))))));refine BE hm λr40 hr40 hm=>DX [5] Q Q (RN Q Q (SC (.d _) (SC (dC Q) SN)) (qSU hr40)) ?_
   cases h41:r38.act with
   | c123=>
    rw [h41] at hm;dsimp only at hm;refine BE hm λr42 hr42 hm=>?_;obtain⟨r43,r44⟩:=r42;refine DX [] Q Q (qDJ (ds:=[.int .i64 e39,.bool (r40)]) Q Q Q Q (qBI hr42)) ?_;iterate 3 (refine DA [] TK Q ?_)
    refine VE hm λe45 he45 hm=>DX [] Q Q (pF TK Q Q Q Q he45 Q) (zFJ 1000023 [6] [(6,.flat 3 1 ((b34.set x32.toNat r43).map (D.int .i64)))] (iS Q) Q (zBR (z':=r43) TK Q Q Q Q Q Q Q he45.2 Q Q Q) (VE hm λe46 he46 hm=>DX [] Q Q (pF TK Q Q Q Q he46 Q) ?_));refine DT ?_ (by kernel_rfl);refine mD 58 (b34.set x32.toNat r43).length Q List.length_set.symm (mD 68 (b34.set x32.toNat r43).length Q List.length_set.symm ?_);refine qAZ 7 [.msl 5 1 0 b33.length,.msl 6 1 0 (b34.set x32.toNat r43).length,.d (.bool (false))] Q (by simp only [List.length_set]) ?_;refine wY (x':=r44) TK Q Q Q Q Q he46.2 Q Q Q (mD 61 (b33.set e37.var.toNat r44).length Q List.length_set.symm (mD 75 (b33.set e37.var.toNat r44).length Q List.length_set.symm ?_));refine qAZ 7 [.msl 5 1 0 (b33.set e37.var.toNat r44).length,.msl 6 1 0 (b34.set x32.toNat r43).length,.d (.bool (false))] Q (by simp only [List.length_set]) ?_;refine TN (WK (WT (WN [6,7,49,50,51] Q Q (TG (GE hm λg47 hm=>SX Q Q (aY Q Q Q Q g47) (SA TK Q (TN ?_)))))));refine WT ?_;exact⟨_,[0,1,2,3,4,5,6,7],(SJ hm),Q,k0,Q⟩
   | c124 u48=>
    rw [h41] at hm;dsimp only at hm;refine BE hm λr49 hr49 hm=>?_;obtain⟨r50,r51⟩:=r49;refine DX [] Q Q (qDJ (ds:=[.int .i64 e39,.bool (r40)]) Q Q Q Q (qBH hr49)) ?_;iterate 3 (refine DA [] TK Q ?_)
    refine VE hm λe52 he52 hm=>DX [] Q Q (pF TK Q Q Q Q he52 Q) (zFJ 1000024 [6] [(6,.flat 3 1 ((b34.set x32.toNat r50).map (D.int .i64)))] (iS Q) Q (zBR (z':=r50) TK Q Q Q Q Q Q Q he52.2 Q Q Q) (VE hm λe53 he53 hm=>DX [] Q Q (pF TK Q Q Q Q he53 Q) ?_));refine DT ?_ (by kernel_rfl);refine mD 58 (b34.set x32.toNat r50).length Q List.length_set.symm (mD 68 (b34.set x32.toNat r50).length Q List.length_set.symm ?_);refine qAZ 7 [.msl 5 1 0 b33.length,.msl 6 1 0 (b34.set x32.toNat r50).length,.d (.bool (false))] Q (by simp only [List.length_set]) ?_;refine wY (x':=r51) TK Q Q Q Q Q he53.2 Q Q Q (mD 61 (b33.set e37.var.toNat r51).length Q List.length_set.symm (mD 75 (b33.set e37.var.toNat r51).length Q List.length_set.symm ?_));refine qAZ 7 [.msl 5 1 0 (b33.set e37.var.toNat r51).length,.msl 6 1 0 (b34.set x32.toNat r50).length,.d (.bool (false))] Q (by simp only [List.length_set]) ?_;refine TN (WK (WT (WN [6,7,49,50,51] Q Q (TG (GE hm λg54 hm=>SX Q Q (aY Q Q Q Q g54) (SA TK Q (TN ?_)))))));refine WT ?_;exact⟨_,[0,1,2,3,4,5,6,7],(SJ hm),Q,k0,Q⟩
  replace hm:=JF h36 hm;refine aI (WX (IE hm λv55 hm hz=>?_));rw [hz35 _ hz] at hm;refine WX (WH (WT ?_));exact⟨_,[0,1,2,3,4,5,6,7],(SJ hm),Q,k0,Q⟩
 obtain⟨b25,b26⟩:=j;refine WN [6,7] Q Q (RS (SA TK Q (SA TK Q (TN (WN [6] Q Q (TR ?_))))));obtain rfl:=OJ hm;exact EndsS.cellR _ TK Q Q Q Q Q (iZ (.cons (dC Q) Q (.cons (dC Q) Q (.cons (.d _) Q .nil))))
theorem nJ {p0:Numbering} {p1:Machine} {r:Bool} (hm:fB p0 p1=some r):RetN Tryz.prog 59 [p0.enc,p1.enc] (.bool (r)):=by
 refine .unit (aJ zLW Tryz.func59 Q Tryz.ntmps59 Q Q (λwX gX=>?_)) Q;unfold fB at hm;refine WN [0,1] Q Q (RS (cZ 0 Q Q Q (cZ 1 Q Q Q (SA TK Q (TN (WN [2,3] Q Q ?_))))));refine aL hm (λx1=>([(4,.d (.bool (x1)))]:Fr)) (λx1=>([]:List (Nat×Blk))) [4] [] Q (λz2 hm=>?_) (λx1 hm=>?_)
 ·refine TG (SA TK Q (SA TK Q (SX Q Q (aP TK Q Q Q) (SA TK Q (SA TK Q (SA TK Q (SB TK Q (λq3 hq3=>?_))))))));cases q3
  ·replace hm:=JF hq3 hm;iterate 11 (refine SA TK Q ?_)
   refine TN (WT ?_);exact⟨_,[0,1],(SJ hm),Q,k0,Q⟩
  replace hm:=JT hq3 hm;refine SA TK Q (SA TK Q (SX Q Q (aP TK Q Q Q) ?_));iterate 4 (refine SA TK Q ?_)
  refine GE hm λg4 hm=>SX Q Q (aY Q Q Q Q g4) (SA TK Q (SA TK Q (SA TK Q (TN (WT ?_)))));exact⟨_,[0,1],(SJ hm),Q,k0,Q⟩
 refine WN [4] Q Q (TR ?_);obtain rfl:=OJ hm;exact EndsS.one _ Q (.d _) (.refl _)
theorem pR {p0:Numbering} {p1:Machine} {p2:Int} {r:RouteState} (hm:eI p0 p1 p2=some r):RetN Tryz.prog 60 [p0.enc,p1.enc,.int .i64 p2] (r.enc):=by
 refine .unit (aJ zLV Tryz.func60 Q Tryz.ntmps60 Q Q (λwX gX=>?_)) Q;unfold eI at hm;refine WN [0,1,2] Q Q (RS (cZ 0 Q Q Q (cZ 1 Q Q Q (cW 2 Q Q eX Q (TN (WN [2,3,4,6] Q Q (RS (SX Q Q (qGR Q zJC qWQ Q Q Q Q) ?_))))))));refine cW 3 Q Q qWQ Q (SA TK Q (TN (WN [2,3,4,6,7] Q Q (RS (cW 4 Q Q eX Q (TN (WN [2,3,4,6,7,8] Q Q ?_)))))));refine aL hm (λc1=>([]:Fr)) (λc1=>([(4,.box 60 [.d (.int .i64 c1),.d (.int .i64 (0:Int)),.d (.int .i64 (0:Int))])]:List (Nat×Blk))) [] [2,3,4,6,8] Q (λz2 hm=>?_) (λc1 hm=>?_)
 ·refine RS (SA TK Q (SA TK Q (TN (WN [2,3,4,6,8,12,13] Q Q (TB (aZ hm (λx4=>([(13,.d (.int .i64 x4))]:Fr)) (λx4=>([]:List (Nat×Blk))) [13] [2,3,4,6,8,12] [0,1,2,3,4] Q k0 Q Q Q Q Q (λx4 z5 hm hz5=>WN [2,3,4,6,8,12,13] Q Q (RS (SA TK Q ?_)))))))));refine TN (WN [2,3,4,6,8,12,13,14] Q Q (TQ ?_));refine TC _ Q (λh6=>?_) (λh6=>?_)
  ·replace hm:=JT h6 hm;refine TS (WT (WN [2,3,4,6,8,12,13] Q Q (TQ (TB (RS (SA TK Q (VE hm λe7 he7 hm=>SX Q Q (x_ixv (f:=(D.int .i64)) (xs:=([(1:Int),(2:Int),(3:Int),(4:Int)]:List Int)) Q Tryz.underlying144 lay3 Q Q he7 Q) ?_)))))));refine SA TK Q (SA TK Q (TN (WN [2,3,4,6,8,9,10,12,13] Q Q (bO follows  ?_))));iterate 5 (refine DA [0,1,2,3,4] TK Q ?_)
   refine GE hm λg8 hm=>DX [0,1,2,3,4] Q Q (aY Q Q Q Q g8) (BE hm λr9 hr9 hm=>DX [0,1,2,3,4] Q Q (RN Q Q (SC (.d _) (SC (.d _) (SC (.d _) SN))) (cD hr9)) (VE hm λe10 he10 hm=>DX [0,1,2,3,4] Q Q (bZ TK Q Q Q Q he10) (DA [0,1,2,3,4] TK Q ?_)));refine DT ?_ (by kernel_rfl);refine TN (WN [2,3,4,6,8,10,12,13,25] Q Q ?_);refine TC _ Q (λh11=>?_) (λh11=>?_)
   ·replace hm:=JA h11 hm;refine RS (SA TK Q (SA TK Q (SA TK Q (TN (WN [2,3,4,6,8] Q Q (aI (mA Q (WX (IE hm λv12 hm hz=>?_)))))))));rw [hz5 _ hz] at hm;refine WX (WH (WT ?_));exact⟨_,[0,1,2,3,4],(SJ hm),Q,k0,Q⟩
   replace hm:=JB h11 hm;refine TS (WK (WT (WN [2,3,4,6,8,12,13] Q Q (TG (GE hm λg13 hm=>SX Q Q (aY Q Q Q Q g13) (SA TK Q (TN ?_)))))));refine WT ?_;exact⟨_,[0,1,2,3,4],(SJ hm),Q,k0,Q⟩
  replace hm:=JF h6 hm;refine aI (WX (IE hm λv14 hm hz=>?_));rw [hz5 _ hz] at hm;refine WX (WH (WT ?_));exact⟨_,[0,1,2,3,4],(SJ hm),Q,k0,Q⟩
 refine WN [2,3,4,6,8] Q Q (TQ ?_);refine kJ [(36,.d (.bool (((!(decide (c1=(3:Int))))&&(!(decide (c1=(4:Int))))))))] [36] [2,3,4,6,8] Q ?_ ?_
 ·refine TG (SA TK Q (SA TK Q (SA TK Q (SB TK Q (λq15 hq15=>?_)))));cases q15
  ·iterate 4 (refine SA TK Q ?_)
   refine TN (WT ?_);exact⟨[0,1,2,3,4],Q,k0,dJ (bK (bL (by simp [hq15])) Q) Q⟩
  iterate 4 (refine SA TK Q ?_)
  refine TN (WT ?_);exact⟨[0,1,2,3,4],Q,k0,dJ (bK (bL (by simp [hq15])) Q) Q⟩
 refine WN [2,3,4,6,8,36] Q Q ?_;refine TC _ Q (λh16=>?_) (λh16=>?_)
 ·replace hm:=JA h16 hm;refine RS (SA TK Q (SA TK Q (TN (WN [6] Q Q (TR (WR ?_))))));obtain rfl:=OJ hm;exact EndsS.cellR _ TK Q Q Q Q Q (.d _)
 replace hm:=JB h16 hm;refine TS (WT (WN [2,3,4,6,8] Q Q ?_));refine aL hm (λc17=>([]:Fr)) (λc17=>([(4,.box 60 [.d (.int .i64 c1),.d (.int .i64 c17),.d (.int .i64 (0:Int))])]:List (Nat×Blk))) [] [2,4,6,8] Q (λz18 hm=>?_) (λc17 hm=>?_)
 ·refine TB (aZ hm (λc20=>([]:Fr)) (λc20=>([(4,.box 60 [.d (.int .i64 c1),.d (.int .i64 c20),.d (.int .i64 (0:Int))])]:List (Nat×Blk))) [] [2,3,4,6,8] [0,1,2,3,4] Q k0 Q Q Q Q Q (λc20 z21 hm hz21=>WN [2,3,4,6,8] Q Q (TQ ?_)));refine aL hm (λx22=>([(55,.d (.bool (x22)))]:Fr)) (λx22=>([]:List (Nat×Blk))) [55] [2,3,4,6,8] Q (λz23 hm=>?_) (λx22 hm=>?_)
  ·refine cU follows  ?_;iterate 4 (refine DA [0,1,2,3,4] TK Q ?_)
   refine BE hm λr24 hr24 hm=>DX [0,1,2,3,4] Q Q (RN Q Q (SC (.d _) (SC (.d _) SN)) (bV hr24)) (DA [0,1,2,3,4] TK Q (d_b [0,1,2,3,4] TK Q (λq25 hq25=>?_)));cases q25
   ·replace hm:=JF hq25 hm;iterate 11 (refine DA [0,1,2,3,4] TK Q ?_)
    refine DT ?_ (by kernel_rfl);refine TN (WT ?_);exact⟨_,[0,1,2,3,4],(SJ hm),Q,k0,Q⟩
   replace hm:=JT hq25 hm;iterate 6 (refine DA [0,1,2,3,4] TK Q ?_)
   refine GE hm λg26 hm=>DX [0,1,2,3,4] Q Q (aY Q Q Q Q g26) (BE hm λr27 hr27 hm=>DX [0,1,2,3,4] Q Q (RN Q Q (SC (.d _) (SC (.d _) (SC (.d _) SN))) (cD hr27)) (VE hm λe28 he28 hm=>DX [0,1,2,3,4] Q Q (bZ TK Q Q Q Q he28) ?_));iterate 2 (refine DA [0,1,2,3,4] TK Q ?_)
   refine DT ?_ (by kernel_rfl);refine TN (WT ?_);exact⟨_,[0,1,2,3,4],(SJ hm),Q,k0,Q⟩
  refine WN [2,3,4,6,8,55] Q Q ?_;refine TC _ Q (λh29=>?_) (λh29=>?_)
  ·replace hm:=JA h29 hm;refine TS (WT (WN [2,3,4,6,8] Q Q (TB (TG (SA TK Q (SA TK Q (GE hm λg30 hm=>SX Q Q (aY Q Q Q Q g30) (SA TK Q (SA TK Q ?_)))))))));refine TN (WK (WT ?_));exact⟨_,[0,1,2,3,4],(SJ hm),Q,k0,Q⟩
  replace hm:=JB h29 hm;refine aI (WX (IE hm λv31 hm hz=>?_));rw [hz21 _ hz] at hm;refine WX (WH (WT ?_));exact⟨_,[0,1,2,3,4],(SJ hm),Q,k0,Q⟩
 refine WN [2,4,6,8] Q Q (TQ (RS (SA TK Q (SA TK Q (SA TK Q (TN (WN [2,4,6,8,62] Q Q ?_)))))));refine TC _ Q (λh32=>?_) (λh32=>?_)
 ·replace hm:=JT h32 hm;refine TG (SA TK Q (SA TK Q (SA TK Q (GE hm λg33 hm=>SX Q Q (aY Q Q Q Q g33) (VE hm λe34 he34 hm=>SX Q Q (bZ TK Q Q Q Q he34) (SA TK Q (SA TK Q (SA TK Q (TN (WT ?_))))))))));refine WN [6,8] Q Q (RS (SA TK Q (SA TK Q (TN (WN [6] Q Q (TR ?_))))));obtain rfl:=OJ hm;exact EndsS.cellR _ TK Q Q Q Q Q (.d _)
 replace hm:=JF h32 hm;refine TG (SA TK Q (SA TK Q (SA TK Q (GE hm λg35 hm=>SX Q Q (aY Q Q Q Q g35) (GE hm λg36 hm=>SX Q Q (aY Q Q Q Q g36) (VE hm λe37 he37 hm=>SX Q Q (bZ TK Q Q Q Q he37) (SA TK Q (SA TK Q (SA TK Q ?_)))))))));refine TN (WT (WN [6,8] Q Q (RS (SA TK Q (SA TK Q (TN (WN [6] Q Q (TR ?_))))))));obtain rfl:=OJ hm;exact EndsS.cellR _ TK Q Q Q Q Q (.d _)
theorem qW {p0:Table} {p1:Machine} {r:Inter} (hm:kH p0 p1=some r):RetD Tryz.prog 18 [p0.enc,p1.enc] (r.enc):=by
 refine .of (mv:=λ_=>false) (aJ zMX Tryz.func18 Q Tryz.ntmps18 Q Q (λwX gX=>?_));unfold kH at hm;refine WN [0,1] Q Q (RS (cZ 0 Q Q Q (cZ 1 Q Q Q (cW 2 Q Q oI Q (gN (f:=RouteState.enc) 2 0 3 60 3 Q Q Q (gN (f:=(D.int .i64)) 2 1 4 3 1 Q Q Q (TN (WN [2,3,4] Q Q ?_))))))));refine RS (SA TK Q (BE hm λr1 hr1 hm=>?_));obtain⟨r2,r3⟩:=r1;refine SX Q Q (yH Q Q Q (pS hr1)) (SA TK Q (SA TK Q (SA TK Q (cW 5 Q Q wQ Q (dK 5 [some 14,some 1,some 1,none,none,none,some 1,none,none] Q Q (SA TK Q (SA TK Q (TN (WN [2,3,4,5,6] Q Q (TQ ?_))))))))));refine aL hm (λx4=>([(23,.d (.bool (x4)))]:Fr)) (λx4=>([]:List (Nat×Blk))) [23] [2,3,4,5] Q (λz5 hm=>?_) (λx4 hm=>?_)
 ·refine TG (SA TK Q (SA TK Q (SB TK Q (λq6 hq6=>?_))));cases q6
  ·replace hm:=dT hq6 hm;refine SA TK Q (SA TK Q (BE hm λr7 hr7 hm=>SX Q Q (RN Q Q (SC (.d _) (SC (.d _) SN)) (nJ hr7)) (SA TK Q (SA TK Q (TN (WT ?_))))));exact⟨_,[0,1,2,3,4,5],(SJ hm),Q,k0,Q⟩
  replace hm:=dS hq6 hm;iterate 5 (refine SA TK Q ?_)
  refine TN (WT ?_);exact⟨_,[0,1,2,3,4,5],(SJ hm),Q,k0,Q⟩
 refine WN [2,3,4,5,23] Q Q ?_;refine TC _ Q (λh8=>?_) (λh8=>?_)
 ·replace hm:=JA h8 hm;refine RS (SX Q Q (iF Q qXD oI Q Q Q Q) (SA TK Q (gN (f:=RouteState.enc) 2 0 6 60 3 Q Q Q (gN (f:=(D.int .i64)) 2 1 7 3 1 Q Q Q (TN (WN [4] Q Q (TR (WR ?_))))))));obtain rfl:=OJ hm;exact EndsS.cellR _ TK Q Q Q Q Q (iZ (.cons (dC Q) Q (.cons (dC Q) Q .nil)))
 replace hm:=JB h8 hm;refine TS (WT (WN [2,3,4,5] Q Q (RS (cW 6 Q Q oI Q (gN (f:=RouteState.enc) 6 0 7 60 3 Q Q Q (gN (f:=(D.int .i64)) 6 1 8 3 1 Q Q Q (TN (WN [2,3,4,5,7] Q Q ?_))))))));refine aL hm (λb9=>([]:Fr)) (λb9=>([(6,.box 52 [.msl 7 3 0 b9.length,.msl 8 1 0 ([]:List Int).length]),(7,.flat 60 3 (b9.map RouteState.enc))]:List (Nat×Blk))) [] [2,3,4,5,7] Q (λz10 hm=>?_) (λb9 hm=>?_)
 ·refine RS (SA TK Q (SA TK Q (SX Q Q (aP TK Q Q Q) (SA TK Q (TN (WN [2,3,4,5,7,27,28] Q Q (TB (aZ hm (λ(x14,b15)=>([(28,.d (.int .i64 x14))]:Fr)) (λ(x14,b15)=>([(6,.box 52 [.msl 7 3 0 b15.length,.msl 8 1 0 ([]:List Int).length]),(7,.flat 60 3 (b15.map RouteState.enc))]:List (Nat×Blk))) [28] [2,3,4,5,7,27] [0,1,2,3,4,5,6,7,8] Q k0 Q Q Q Q Q (λs z16 hm hz16=>?_)))))))));obtain⟨x14,b15⟩:=s;refine WN [2,3,4,5,7,27,28] Q Q (RS (SA TK Q (TN (WN [2,3,4,5,7,27,28,29] Q Q (TQ ?_)))));refine TC _ Q (λh17=>?_) (λh17=>?_)
  ·replace hm:=JT h17 hm;refine TS (WT (WN [2,3,4,5,7,27,28] Q Q (TQ (TB (RS (SA TK Q (SA TK Q (TN (WN [2,3,4,5,7,8,27,28] Q Q ?_)))))))));refine eM (cU follows  (DA [] TK Q (DA [6] TK Q (DA [5] TK Q (DA [1] TK Q (DA [] TK Q (BE hm λr18 hr18 hm=>DX [] Q Q (RN Q Q (SC (.d _) (SC (.d _) (SC (.d _) SN))) (pR hr18)) ?_)))))));refine DX [] Q Q (fX [.tmp 36] TK Q Q eX Q Q Q Q Q) (GE hm λg19 hm=>rO [7,9] _ (.msl 9 3 0 (b15++([r18]:List RouteState)).length) Q (iS Q) Q (w_appD (f:=RouteState.enc) (xs:=b15) ([r18]:List RouteState) Q Q Q TK Q eX Q Q Q Q Q Q fZ g19) (DA [] TK Q ?_));refine DT ?_ (by kernel_rfl);refine SA TK Q (TN (WK (WT (WN [2,3,4,5,7,27,28] Q Q (TG (GE hm λg20 hm=>SX Q Q (aY Q Q Q Q g20) (SA TK Q ?_)))))));refine TN (WT ?_);exact⟨_,[0,1,2,3,4,5,6,9,8],(SJ hm),Q,k0,Q⟩
  replace hm:=JF h17 hm;refine aI (WX (IE hm λv21 hm hz=>?_));rw [hz16 _ hz] at hm;refine WX (WH (WT ?_));exact⟨_,[0,1,2,3,4,5,6,7,8],(SJ hm),Q,k0,Q⟩
 refine WN [2,3,4,5,7] Q Q ?_;refine aL hm (λb22=>([]:Fr)) (λb22=>([(6,.box 52 [.msl 7 3 0 b9.length,.msl 8 1 0 b22.length]),(8,.flat 3 1 (b22.map (D.int .i64)))]:List (Nat×Blk))) [] [4,7] Q (λz23 hm=>?_) (λb22 hm=>?_)
 ·refine RS (SA TK Q (SA TK Q (SX Q Q (aP TK Q Q Q) (SA TK Q (TN (WN [3,4,5,7,43,44] Q Q (TB (aZ hm (λ(x27,b28)=>([(44,.d (.int .i64 x27))]:Fr)) (λ(x27,b28)=>([(6,.box 52 [.msl 7 3 0 b9.length,.msl 8 1 0 b28.length]),(8,.flat 3 1 (b28.map (D.int .i64)))]:List (Nat×Blk))) [44] [3,4,5,7,43] [0,1,2,3,4,5,6,7,8] Q k0 Q Q Q Q Q (λs z29 hm hz29=>?_)))))))));obtain⟨x27,b28⟩:=s;refine WN [3,4,5,7,43,44] Q Q (RS (SA TK Q (TN (WN [3,4,5,7,43,44,45] Q Q (TQ ?_)))));refine TC _ Q (λh30=>?_) (λh30=>?_)
  ·replace hm:=JT h30 hm;refine TS (WT (WN [3,4,5,7,43,44] Q Q (TQ (TB (RS (SA TK Q (SA TK Q (TN (WN [3,4,5,7,9,43,44] Q Q ?_)))))))));refine RS (SA TK Q (TN (WN [3,4,5,7,9,10,43,44] Q Q ?_)));refine aL hm (λpos31=>([(10,.d (.int .i64 pos31))]:Fr)) (λpos31=>([]:List (Nat×Blk))) [10] [3,4,5,7,43,44] Q (λz32 hm=>?_) (λpos31 hm=>?_)
   ·refine bO follows  ?_;iterate 4 (refine DA [0,1,2,3,4,5,6,7,8] TK Q ?_)
    refine BE hm λr33 hr33 hm=>DX [0,1,2,3,4,5,6,7,8] Q Q (RN Q Q (SC (.d _) (SC (.d _) SN)) (iB hr33)) (VE hm λe34 he34 hm=>DX [0,1,2,3,4,5,6,7,8] Q Q (bZ TK Q Q Q Q he34) (DA [0,1,2,3,4,5,6,7,8] TK Q ?_));refine DT ?_ (by kernel_rfl);refine TN (WN [3,4,5,7,10,43,44,53] Q Q ?_);refine TC _ Q (λh35=>?_) (λh35=>?_)
    ·replace hm:=JA h35 hm;refine TG (SA TK Q (TN (WT ?_)));exact⟨_,[0,1,2,3,4,5,6,7,8],(SJ hm),Q,k0,Q⟩
    replace hm:=JB h35 hm;refine TS (WT ?_);exact⟨_,[0,1,2,3,4,5,6,7,8],(SJ hm),Q,k0,Q⟩
   refine WN [3,4,5,7,10,43,44] Q Q (TG (SA TK Q (SA TK Q (SA TK Q (SX Q Q (fX [.tmp 56] TK Q Q lD Q Q Q Q Q) (GE hm λg36 hm=>gI (f:=(D.int .i64)) ([pos31]:List Int) TK Q Q lD Q Q Q Q Q (λh=>absurd h (zQV _)) Q fZ g36 Q Q (SA TK Q (SA TK Q (TN (WK ?_))))))))));refine WT (WN [3,4,5,7,43,44] Q Q (TG (GE hm λg37 hm=>SX Q Q (aY Q Q Q Q g37) (SA TK Q (TN (WT ?_))))));exact⟨_,[0,1,2,3,4,5,6,7,8],(SJ hm),Q,k0,Q⟩
  replace hm:=JF h30 hm;refine aI (WX (IE hm λv38 hm hz=>?_));rw [hz29 _ hz] at hm;refine WX (WH (WT ?_));exact⟨_,[0,1,2,3,4,5,6,7,8],(SJ hm),Q,k0,Q⟩
 refine WN [4,7] Q Q (RS (SA TK Q (SA TK Q (TN (WN [4] Q Q (TR ?_))))));obtain rfl:=OJ hm;exact EndsS.cellR _ TK Q Q Q Q Q (iZ (.cons (dC Q) Q (.cons (dC Q) Q .nil)))
theorem wH {p0:Table} {p1:Machine} {r:(List Bool)} (hm:lN p0 p1=some r):RetD Tryz.prog 20 [p0.enc,p1.enc] (.sl 1 (r.map D.bool)):=by
 refine .of (mv:=λ_=>false) (aJ zMW Tryz.func20 Q Tryz.ntmps20 Q Q (λwX gX=>?_));unfold lN at hm;refine WN [0,1] Q Q (RS (cZ 0 Q Q Q (cZ 1 Q Q Q (SA TK Q (TN (WN [2,3] Q Q (TQ (RS ?_))))))));refine SA TK Q (BE hm λr1 hr1 hm=>SX Q Q (RN Q Q (SC (.d _) SN) (kE hr1)) (SA TK Q (TN (WN [2,3,12] Q Q ?_))));refine TC _ Q (λh2=>?_) (λh2=>?_)
 ·replace hm:=dS h2 hm;refine RS (SA TK Q (TN (qTG 4 [some 1] Q (WN [4] Q Q (TR (WR ?_))))));obtain rfl:=OJ hm;exact EndsS.one _ Q (.d _) (.refl _)
 replace hm:=dT h2 hm;refine TS (WT (WN [2,3] Q Q (RS (SA TK Q (SA TK Q (GE hm λg3 hm=>zCO (f:=D.bool) (x:=false) 2 TK Q Q Q oK Q Q Q Q Q g3 Q (SA TK Q (TN ?_))))))));refine WN [2,3,5] Q Q (RS (SA TK Q (BE hm λr4 hr4 hm=>?_)));obtain⟨r5,r6⟩:=r4;refine SX Q Q (yH Q Q Q (pS hr4)) (SA TK Q (SA TK Q (SA TK Q (cW 3 Q Q wQ Q (dK 3 [some 14,some 1,some 1,none,none,none,some 1,none,none] Q Q (SA TK Q (SA TK Q (TN (WN [2,3,5,6,7] Q Q (TQ ?_))))))))));refine aL hm (λx7=>([(32,.d (.bool (x7)))]:Fr)) (λx7=>([]:List (Nat×Blk))) [32] [2,3,5,6] Q (λz8 hm=>?_) (λx7 hm=>?_)
 ·refine TG (SA TK Q (SA TK Q (SB TK Q (λq9 hq9=>?_))));cases q9
  ·replace hm:=dT hq9 hm;refine SA TK Q (SA TK Q (SA TK Q (SB TK Q (λq10 hq10=>?_))));cases q10
   ·replace hm:=JB hq10 hm;refine SA TK Q (SA TK Q (BE hm λr11 hr11 hm=>SX Q Q (RN Q Q (SC (.d _) (SC (.d _) SN)) (nJ hr11)) (SA TK Q (SA TK Q (TN (WT ?_))))));exact⟨_,[0,1,2,3],(SJ hm),Q,k0,Q⟩
   replace hm:=JA hq10 hm;iterate 5 (refine SA TK Q ?_)
   refine TN (WT ?_);exact⟨_,[0,1,2,3],(SJ hm),Q,k0,Q⟩
  replace hm:=dS hq9 hm;iterate 9 (refine SA TK Q ?_)
  refine TN (WT ?_);exact⟨_,[0,1,2,3],(SJ hm),Q,k0,Q⟩
 refine WN [2,3,5,6,32] Q Q ?_;refine TC _ Q (λh12=>?_) (λh12=>?_)
 ·replace hm:=JA h12 hm;refine RS (SA TK Q (SA TK Q (TN (WN [4] Q Q (TR (WR ?_))))));obtain rfl:=OJ hm;exact EndsS.one _ Q (dC Q) (.refl _)
 replace hm:=JB h12 hm;refine TS (WT (WN [2,3,5,6] Q Q ?_));refine aL hm (λb13=>([(5,.msl 2 1 0 b13.length)]:Fr)) (λb13=>([(2,.flat 4 1 (b13.map D.bool))]:List (Nat×Blk))) [5] [] Q (λz14 hm=>?_) (λb13 hm=>?_)
 ·refine RS (SA TK Q (SA TK Q (SX Q Q (aP TK Q Q Q) (SA TK Q (TN (WN [3,5,6,35,36,37] Q Q (TB (aZ hm (λ(x18,b19)=>([(5,.msl 2 1 0 b19.length),(37,.d (.int .i64 x18))]:Fr)) (λ(x18,b19)=>([(2,.flat 4 1 (b19.map D.bool))]:List (Nat×Blk))) [5,37] [3,6,35,36] [0,1,2,3] Q k0 Q Q Q Q Q (λs z20 hm hz20=>?_)))))))));obtain⟨x18,b19⟩:=s;refine WN [3,5,6,35,36,37] Q Q (RS (SA TK Q (TN (WN [3,5,6,35,36,37,38] Q Q (TQ ?_)))));refine TC _ Q (λh21=>?_) (λh21=>?_)
  ·replace hm:=JT h21 hm;refine TS (WT (WN [3,5,6,35,36,37] Q Q (TQ (TB (RS (SA TK Q (VE hm λe22 he22 hm=>SX Q Q (bZ TK Q Q Q Q he22) ?_)))))));refine SA TK Q (cW 4 Q Q jK Q (dK 4 [none,none,none,some 3,some 2,some 1,none,none,some 3,some 2,some 1,some 2,some 1,some 2] Q Q (SA TK Q (SA TK Q (TN (WN [3,5,6,8,9,35,36,37] Q Q (bO follows  ?_)))))));iterate 4 (refine DA [0,1,2,3,4] TK Q ?_)
   refine BE hm λr23 hr23 hm=>DX [0,1,2,3,4] Q Q (RN Q Q (SC (.d _) (SC (.d _) (SC (.d _) SN))) (cD hr23)) (VE hm λe24 he24 hm=>DX [0,1,2,3,4] Q Q (bZ TK Q Q Q Q he24) (DA [0,1,2,3,4] TK Q ?_));refine DT ?_ (by kernel_rfl);refine TN (WN [3,5,6,9,35,36,37,48] Q Q ?_);refine TC _ Q (λh25=>?_) (λh25=>?_)
   ·replace hm:=JA h25 hm;refine TG (SA TK Q (SA TK Q (SA TK Q (VE hm λe26 he26 hm=>SX Q Q (pF TK Q Q Q Q he26 Q) (wY (x':=true) TK Q Q Q Q Q he26.2 Q Q Q (mD 5 (b19.set e22.entry.toNat true).length Q List.length_set.symm (mD 49 (b19.set e22.entry.toNat true).length Q List.length_set.symm (TN (WK ?_)))))))));refine WT (WN [3,5,6,35,36,37] Q Q (TG (GE hm λg27 hm=>SX Q Q (aY Q Q Q Q g27) (SA TK Q (TN (WT ?_))))));exact⟨_,[0,1,2,3],(SJ hm),Q,k0,Q⟩
   replace hm:=JB h25 hm;refine TS (WK (WT (WN [3,5,6,35,36,37] Q Q (TG (GE hm λg28 hm=>SX Q Q (aY Q Q Q Q g28) (SA TK Q (TN ?_)))))));refine WT ?_;exact⟨_,[0,1,2,3],(SJ hm),Q,k0,Q⟩
  replace hm:=JF h21 hm;refine aI (WX (IE hm λv29 hm hz=>?_));rw [hz20 _ hz] at hm;refine WX (WH (WT ?_));exact⟨_,[0,1,2,3],(SJ hm),Q,k0,Q⟩
 refine WN [5] Q Q (RS (SA TK Q (SA TK Q (TN (WN [4] Q Q (TR ?_))))));obtain rfl:=OJ hm;exact EndsS.one _ Q (dC Q) (.refl _)
theorem tY  {r:Bool} (hm:oE=some r):RetN Tryz.prog 10 [] (.bool (r)):=by
 refine .unit (aJ zND Tryz.func10 Q Tryz.ntmps10 Q Q (λwX gX=>?_)) Q;unfold oE at hm;refine WN [] Q Q (RS (SA TK Q (TN (WN [] Q Q (RS (BE hm λr1 hr1 hm=>SX Q Q (RD Q Q Q (qOK hr1)) (cW 0 Q Q qTV Q ?_)))))));refine dK 0 [some 14,some 1,some 1,none,none] Q Q (SA TK Q (TN (WN [1] Q Q (RS (SA TK Q (BE hm λr2 hr2 hm=>?_))))));obtain⟨r3,r4⟩:=r2;refine SX Q Q (yH Q Q Q (tT hr2)) (SA TK Q (SA TK Q (SA TK Q (cW 1 Q Q qGV Q (dK 1 [some 1,none,some 6] Q Q (SA TK Q (SA TK Q (TN (WN [1,2,3] Q Q (TQ ?_))))))))));refine aL hm (λx5=>([(62,.d (.bool (x5)))]:Fr)) (λx5=>([]:List (Nat×Blk))) [62] [1,2] Q (λz6 hm=>?_) (λx5 hm=>?_)
 ·refine TG (SA TK Q (SA TK Q (SB TK Q (λq7 hq7=>?_))));cases q7
  ·replace hm:=dT hq7 hm;refine SA TK Q (SA TK Q (SX Q Q (aP TK Q Q Q) (SA TK Q (SA TK Q (SB TK Q (λq8 hq8=>?_))))));cases q8
   ·replace hm:=dT hq8 hm;iterate 4 (refine SA TK Q ?_)
    refine SB TK Q (λq9 hq9=>?_);cases q9
    ·replace hm:=dT hq9 hm;refine SA TK Q (SA TK Q (SX Q Q (aP TK Q Q Q) (SA TK Q (SA TK Q (SB TK Q (λq10 hq10=>?_))))));cases q10
     ·replace hm:=dT hq10 hm;refine SA TK Q (SA TK Q (VE hm λe11 he11 hm=>SX Q Q (bZ TK Q Q Q Q he11) (SA TK Q (SA TK Q (SA TK Q (SB TK Q (λq12 hq12=>?_)))))));cases q12
      ·replace hm:=dT hq12 hm;refine SA TK Q (SA TK Q (VE hm λe13 he13 hm=>SX Q Q (bZ TK Q Q Q Q he13) (SA TK Q (SA TK Q (SA TK Q (SB TK Q (λq14 hq14=>?_)))))));cases q14
       ·replace hm:=dT hq14 hm;refine SA TK Q (SA TK Q (VE hm λe15 he15 hm=>SX Q Q (bZ TK Q Q Q Q he15) (SA TK Q (SA TK Q (SA TK Q (SB TK Q (λq16 hq16=>?_)))))));cases q16
        ·replace hm:=dT hq16 hm;refine SA TK Q (SA TK Q (VE hm λe17 he17 hm=>SX Q Q (bZ TK Q Q Q Q he17) (SA TK Q (SA TK Q (SA TK Q (TN (WT ?_)))))));exact⟨_,[0,1],(SJ hm),Q,k0,Q⟩
        replace hm:=dS hq16 hm;iterate 6 (refine SA TK Q ?_)
        refine TN (WT ?_);exact⟨_,[0,1],(SJ hm),Q,k0,Q⟩
       replace hm:=dS hq14 hm;iterate 13 (refine SA TK Q ?_)
       refine TN (WT ?_);exact⟨_,[0,1],(SJ hm),Q,k0,Q⟩
      replace hm:=dS hq12 hm;iterate 20 (refine SA TK Q ?_)
      refine TN (WT ?_);exact⟨_,[0,1],(SJ hm),Q,k0,Q⟩
     replace hm:=dS hq10 hm;iterate 27 (refine SA TK Q ?_)
     refine TN (WT ?_);exact⟨_,[0,1],(SJ hm),Q,k0,Q⟩
    replace hm:=dS hq9 hm;iterate 33 (refine SA TK Q ?_)
    refine TN (WT ?_);exact⟨_,[0,1],(SJ hm),Q,k0,Q⟩
   replace hm:=dS hq8 hm;iterate 38 (refine SA TK Q ?_)
   refine TN (WT ?_);exact⟨_,[0,1],(SJ hm),Q,k0,Q⟩
  replace hm:=dS hq7 hm;iterate 44 (refine SA TK Q ?_)
  refine TN (WT ?_);exact⟨_,[0,1],(SJ hm),Q,k0,Q⟩
 refine WN [1,2,62] Q Q ?_;refine TC _ Q (λh18=>?_) (λh18=>?_)
 ·replace hm:=JA h18 hm;refine RS (SA TK Q (TN (WN [0] Q Q (TR (WR ?_)))));obtain rfl:=OJ hm;exact EndsS.one _ Q (.d _) (.refl _)
 replace hm:=JB h18 hm;refine TS (WT (WN [1,2] Q Q (eM (bO follows  (GE hm λg19 hm=>DX [] Q Q (qAD (f:=D.bool) (x:=false) TK Q Q oK Q Q Q Q Q g19 Q) (GE hm λg20 hm=>DX [] Q Q (qAD (f:=D.bool) (x:=false) TK Q Q oK Q Q Q Q Q g20 Q) ?_))))));refine GE hm λg21 hm=>DX [] Q Q (qAD (f:=D.bool) (x:=false) TK Q Q oK Q Q Q Q Q g21 Q) (DX [] Q Q (fX [.const (Value.int IntKind.i64 0)] TK Q Q lD Q Q Q Q Q) (DX [] Q Q (cI Q plc43 qTU Q Q Q Q) (rO [2] _ (.mptr 2 0 0 0) Q (iS Q) Q (kV Q Q qTU Q Q) ?_)));refine DT ?_ (by kernel_rfl);refine SA TK Q (dK 2 [none,some 1,none,none,some 1,none,some 1] Q Q (TN (WN [1,2,4] Q Q (eM (bO follows  ?_)))));iterate 2 (refine DA [1] TK Q ?_)
 refine BE hm λr22 hr22 hm=>DX [] Q Q (RD Q Q Q (qET hr22)) (DA [0] TK Q (DA [2] TK Q (BE hm λr23 hr23 hm=>DX [] Q Q (RD Q Q Q (pT hr23)) (BE hm λr24 hr24 hm=>DX [] Q Q (RD Q Q Q (qAH hr24)) (rO [3] _ (.mptr 3 0 0 0) Q (iS Q) Q (kV Q Q oJ Q Q) ?_)))));refine DT ?_ (by kernel_rfl);refine SA TK Q (TN (WN [1,2,4,5] Q Q (RS (SA TK Q (SA TK Q (dK 2 [none,none,none,none,none,some 1,none] Q Q (TN (WN [1,2,4,5] Q Q (eM ?_)))))))));refine bO follows  (DA [1] TK Q (DA [3] TK Q (DA [0] TK Q (DA [2] TK Q (BE hm λr25 hr25 hm=>DX [] Q Q (RD Q Q Q (pT hr25)) (BE hm λr26 hr26 hm=>DX [] Q Q (RD Q Q Q (qAH hr26)) ?_))))));refine rO [4] _ (.mptr 4 0 0 0) Q (iS Q) Q (kV Q Q oJ Q Q) ?_;refine DT ?_ (by kernel_rfl);refine SA TK Q (TN (WN [1,5,6] Q Q (eM (eM (bO follows  (DA [0] TK Q (DA [3] TK Q (BE hm λr27 hr27 hm=>?_))))))));refine DX [] Q Q (RD Q Q Q (qW hr27)) (DA [0] TK Q (DA [4] TK Q (BE hm λr28 hr28 hm=>DX [] Q Q (RD Q Q Q (qW hr28)) (rO [5] _ (.mptr 5 0 0 0) Q (iS Q) Q (kV Q Q oI Q Q) (rO [6] _ (.mptr 6 0 0 0) Q (iS Q) Q (kV Q Q oI Q Q) ?_)))));refine DT ?_ (by kernel_rfl);refine SA TK Q (SA TK Q (TN (WN [1,6,7,8] Q Q (TQ ?_))));refine kJ [(97,.d (.bool (((!(decide ((r27.routes.length:Int)=(2:Int))))||(!(decide ((r28.routes.length:Int)=(2:Int))))))))] [97] [1,6,7,8] Q ?_ ?_
 ·refine TG (SA TK Q (SA TK Q (SX Q Q (aP TK Q Q Q) (SA TK Q (SB TK Q (λq29 hq29=>?_))))));cases q29
  ·refine SA TK Q (SA TK Q (SX Q Q (aP TK Q Q Q) (SA TK Q (SA TK Q (TN (WT ?_))))));exact⟨[0,1,2,3,4,5,6],Q,k0,dJ (bK (bL (by simp [hq29])) Q) Q⟩
  iterate 5 (refine SA TK Q ?_)
  refine TN (WT ?_);exact⟨[0,1,2,3,4,5,6],Q,k0,dJ (bK (bL (by simp [hq29])) Q) Q⟩
 refine WN [1,6,7,8,97] Q Q ?_;refine TC _ Q (λh30=>?_) (λh30=>?_)
 ·replace hm:=JA h30 hm;refine RS (SA TK Q (TN (WN [0] Q Q (TR (WR ?_)))));obtain rfl:=OJ hm;exact EndsS.one _ Q (.d _) (.refl _)
 replace hm:=JB h30 hm;refine TS (WT (WN [1,6,7,8] Q Q (RS (SA TK Q (SA TK Q (BE hm λr31 hr31 hm=>SX Q Q (RD Q Q Q (wH hr31)) (SA TK Q (TN ?_))))))));refine WN [7,8,9] Q Q ?_;refine aL hm (λx32=>([(0,.d (.bool (x32)))]:Fr)) (λx32=>([]:List (Nat×Blk))) [0] [] Q (λz33 hm=>?_) (λx32 hm=>?_)
 ·refine TG (SA TK Q (SA TK Q (VE hm λe34 he34 hm=>SX Q Q (bZ TK Q Q Q Q he34) (SA TK Q (SX Q Q (cI Q pG eX Q Q Q Q) (GE hm λg35 hm=>SX Q Q (qAC Q Q Q g35.1 g35.2) (SB TK Q (λq37 hq37=>?_))))))));cases q37
  ·replace hm:=JF hq37 hm;iterate 24 (refine SA TK Q ?_)
   refine TN (WT ?_);exact⟨_,[0,1,2,3,4,5,6],(SJ hm),Q,k0,Q⟩
  replace hm:=JT hq37 hm;refine SA TK Q (SA TK Q (VE hm λe38 he38 hm=>SX Q Q (bZ TK Q Q Q Q he38) (SA TK Q (SX Q Q (cI Q pG eX Q Q Q Q) (GE hm λg39 hm=>SX Q Q (qAC Q Q Q g39.1 g39.2) (SA TK Q (SB TK Q (λq41 hq41=>?_))))))));cases q41
  ·replace hm:=JF hq41 hm;iterate 16 (refine SA TK Q ?_)
   refine TN (WT ?_);exact⟨_,[0,1,2,3,4,5,6],(SJ hm),Q,k0,Q⟩
  replace hm:=JT hq41 hm;refine SA TK Q (SX Q Q (aP TK Q Q Q) (SA TK Q (SA TK Q (SB TK Q (λq42 hq42=>?_)))));cases q42
  ·replace hm:=JF hq42 hm;iterate 11 (refine SA TK Q ?_)
   refine TN (WT ?_);exact⟨_,[0,1,2,3,4,5,6],(SJ hm),Q,k0,Q⟩
  replace hm:=JT hq42 hm;refine SA TK Q (VE hm λe43 he43 hm=>SX Q Q (bZ TK Q Q Q Q he43) (SA TK Q (SA TK Q (SB TK Q (λq44 hq44=>?_)))));cases q44
  ·replace hm:=JB hq44 hm;iterate 6 (refine SA TK Q ?_)
   refine TN (WT ?_);exact⟨_,[0,1,2,3,4,5,6],(SJ hm),Q,k0,Q⟩
  replace hm:=JA hq44 hm;refine SA TK Q (VE hm λe45 he45 hm=>SX Q Q (bZ TK Q Q Q Q he45) ?_);iterate 4 (refine SA TK Q ?_)
  refine TN (WT ?_);exact⟨_,[0,1,2,3,4,5,6],(SJ hm),Q,k0,Q⟩
 refine WN [0] Q Q (TR ?_);obtain rfl:=OJ hm;exact EndsS.one _ Q (.d _) (.refl _)
theorem qDD {p0:Table} {r:Places} (hm:mH p0=some r):RetD Tryz.prog 43 [p0.enc] (r.enc):=by
 refine .of (mv:=λ_=>false) (aJ zMC Tryz.func43 Q Tryz.ntmps43 Q Q (λwX gX=>?_));unfold mH at hm;refine WN [0] Q Q (RS (cZ 0 Q Q Q (cW 1 Q Q qML Q (gN (f:=(D.int .i64)) 1 5 2 3 1 Q Q Q (TN (WN [1,2] Q Q (RS (SA TK Q (SA TK Q ?_)))))))));refine GE hm λg1 hm=>SX Q Q (aY Q Q Q Q g1) (SX Q Q (iF Q plc91 qML Q Q Q Q) (cW 3 Q Q qML Q (gN (f:=(D.int .i64)) 3 5 4 3 1 Q Q Q (SA TK Q (gN (f:=(D.int .i64)) 3 5 5 3 1 Q Q Q (TN (WN [1,2,3] Q Q ?_)))))));refine RS ?_;iterate 4 (refine SA TK Q ?_)
 refine SX Q Q (aP TK Q Q Q) (GE hm λg2 hm=>SX Q Q (aY Q Q Q Q g2) (GE hm λg3 hm=>SX Q Q (aY Q Q Q Q g3) (SA TK Q (SA TK Q (TN (WN [1,2,3] Q Q (RS ?_)))))));iterate 4 (refine SA TK Q ?_)
 refine SX Q Q (aP TK Q Q Q) (GE hm λg4 hm=>SX Q Q (aY Q Q Q Q g4) (GE hm λg5 hm=>SX Q Q (aY Q Q Q Q g5) (SA TK Q (SA TK Q (TN (WN [1,2,3] Q Q (RS ?_)))))));iterate 4 (refine SA TK Q ?_)
 refine SX Q Q (aP TK Q Q Q) (GE hm λg6 hm=>SX Q Q (aY Q Q Q Q g6) (SA TK Q (TN (WN [1,2,3,4] Q Q ?_))));refine aL hm (λ(at7,b8)=>([(4,.d (.int .i64 at7))]:Fr)) (λ(at7,b8)=>([(3,.box 91 [.d (.int .i64 ((2:Int) * p0.sections)),.d (.int .i64 (((2:Int) * p0.sections)+((2:Int) * (p0.points.length:Int)))),.d (.int .i64 ((((2:Int) * p0.sections)+((2:Int) * (p0.points.length:Int)))+((4:Int) * (p0.routes.length:Int)))),.d (.int .i64 (0:Int)),.d (.int .i64 (0:Int)),.msl 5 1 0 b8.length]),(5,.flat 3 1 (b8.map (D.int .i64)))]:List (Nat×Blk))) [4] [1,2,3] Q (λz9 hm=>?_) (λj hm=>?_)
 ·refine RS (SA TK Q (TN (WN [1,2,3,4,5] Q Q (TB (aZ hm (λ(at15,i16,b17)=>([(4,.d (.int .i64 at15)),(5,.d (.int .i64 i16))]:Fr)) (λ(at15,i16,b17)=>([(3,.box 91 [.d (.int .i64 ((2:Int) * p0.sections)),.d (.int .i64 (((2:Int) * p0.sections)+((2:Int) * (p0.points.length:Int)))),.d (.int .i64 ((((2:Int) * p0.sections)+((2:Int) * (p0.points.length:Int)))+((4:Int) * (p0.routes.length:Int)))),.d (.int .i64 (0:Int)),.d (.int .i64 (0:Int)),.msl 5 1 0 b17.length]),(5,.flat 3 1 (b17.map (D.int .i64)))]:List (Nat×Blk))) [4,5] [1,2,3] [0,1,2,3,4,5] Q k0 Q Q Q Q Q (λs z18 hm hz18=>?_))))));obtain⟨at15,i16,b17⟩:=s;refine WN [1,2,3,4,5] Q Q (TQ (RS (SA TK Q (SA TK Q (SA TK Q (SX Q Q (aP TK Q Q Q) (SA TK Q (TN (WN [1,2,3,4,5,36] Q Q ?_)))))))));refine TC _ Q (λh19=>?_) (λh19=>?_)
  ·replace hm:=JT h19 hm;refine TS (WT (WN [1,2,3,4,5] Q Q (TQ (TB (RS (SA TK Q (SA TK Q (SA TK Q (SX Q Q (fX [.tmp 41] TK Q Q lD Q Q Q Q Q) (GE hm λg20 hm=>?_))))))))));refine gI (f:=(D.int .i64)) ([at15]:List Int) TK Q Q lD Q Q Q Q Q (λh=>absurd h (zQV _)) Q fZ g20 Q Q (SA TK Q (SA TK Q (TN (WN [1,2,3,4,5] Q Q (TG (SA TK Q (GE hm λg21 hm=>SX Q Q (aY Q Q Q Q g21) (SA TK Q (SA TK Q (SA TK Q ?_))))))))));refine VE hm λe22 he22 hm=>SX Q Q (bZ TK Q Q Q Q he22) (SA TK Q (SA TK Q (SX Q Q (aP TK Q Q Q) (GE hm λg23 hm=>SX Q Q (aY Q Q Q Q g23) (SX Q Q (rd_max Q Q Q Q) (GE hm λg24 hm=>SX Q Q (aY Q Q Q Q g24) ?_))))));refine SA TK Q (TN (WK (WT (WN [1,2,3,4,5] Q Q (TG (SA TK Q (GE hm λg25 hm=>SX Q Q (aY Q Q Q Q g25) ?_)))))));refine SA TK Q (TN (WT ?_));exact⟨_,[0,1,2,3,4,5],(SJ hm),Q,k0,Q⟩
  replace hm:=JF h19 hm;refine aI (WX (IE hm λv26 hm hz=>?_));rw [hz18 _ hz] at hm;refine WX (WH (WT ?_));exact⟨_,[0,1,2,3,4,5],(SJ hm),Q,k0,Q⟩
 obtain⟨at7,b8⟩:=j;refine WN [1,2,3,4] Q Q (RS (SA TK Q (SA TK Q (SA TK Q (TN (WN [1,2,3,4] Q Q (RS (SA TK Q (SA TK Q (SA TK Q (SX Q Q (aP TK Q Q Q) (GE hm λg27 hm=>?_))))))))))));refine SX Q Q (aY Q Q Q Q g27) (GE hm λg28 hm=>SX Q Q (aY Q Q Q Q g28) (SA TK Q (SA TK Q (TN (WN [2,3] Q Q (RS (SA TK Q (SA TK Q (TN ?_)))))))));refine WN [2] Q Q (TR ?_);obtain rfl:=OJ hm;exact EndsS.cellR _ TK Q Q Q Q Q (iZ (.cons (.d _) Q (.cons (.d _) Q (.cons (.d _) Q (.cons (.d _) Q (.cons (.d _) Q (.cons (dC Q) Q .nil)))))))
theorem qKT {p0:(List Bool)} {p1:(List Bool)} {r:Bool} (hm:qN p0 p1=some r):RetN Tryz.prog 14 [.sl 1 (p0.map D.bool),.sl 1 (p1.map D.bool)] (.bool (r)):=by
 refine .unit (aJ zNA Tryz.func14 Q Tryz.ntmps14 Q Q (λwX gX=>?_)) Q;unfold qN at hm;refine WN [0,1] Q Q (RS (SA TK Q (TN (WN [0,1] Q Q (TQ (RS (SA TK Q (SX Q Q (aP TK Q Q Q) ?_))))))));refine SA TK Q (SX Q Q (aP TK Q Q Q) (SA TK Q (TN (WN [0,1,10] Q Q ?_))));refine TC _ Q (λh1=>?_) (λh1=>?_)
 ·replace hm:=dS h1 hm;refine RS (SA TK Q (TN (WN [4] Q Q (TR (WR ?_)))));obtain rfl:=OJ hm;exact EndsS.one _ Q (.d _) (.refl _)
 replace hm:=dT h1 hm;refine TS (WT (WN [0,1] Q Q ?_));refine cM hm (λ_=>([]:Fr)) (λ_=>([]:List (Nat×Blk))) [] [] Q (λz2 hm hz2=>?_) (λj hm=>?_)
 ·refine RS (SA TK Q (SX Q Q (aP TK Q Q Q) (SA TK Q (TN (WN [0,1,12,13] Q Q (TB (aZ hm (λx4=>([(13,.d (.int .i64 x4))]:Fr)) (λx4=>([]:List (Nat×Blk))) [13] [0,1,12] [] Q k0 Q Q Q Q Q (λx4 z5 hm hz5=>WN [0,1,12,13] Q Q ?_))))))));refine RS (SA TK Q (TN (WN [0,1,12,13,14] Q Q (TQ ?_))));refine TC _ Q (λh6=>?_) (λh6=>?_)
  ·replace hm:=JT h6 hm;refine TS (WT (WN [0,1,12,13] Q Q (TQ (TB (RS (SA TK Q (SA TK Q (TN (WN [0,1,5,12,13] Q Q ?_)))))))));refine bO follows  ?_;iterate 2 (refine DA [] TK Q ?_)
   refine VE hm λe7 he7 hm=>DX [] Q Q (bZ TK Q Q Q Q he7) ?_;iterate 3 (refine DA [] TK Q ?_)
   refine VE hm λe8 he8 hm=>DX [] Q Q (bZ TK Q Q Q Q he8) ?_;iterate 2 (refine DA [] TK Q ?_)
   refine DT ?_ (by kernel_rfl);refine TN (WN [0,1,12,13,24] Q Q ?_);refine TC _ Q (λh9=>?_) (λh9=>?_)
   ·replace hm:=JA h9 hm;refine RS (SA TK Q (TN (WN [4] Q Q (TR (WB (WR (IE hm λv10 hm hz=>?_)))))));rw [hz5 _ hz] at hm;refine WR (WB (IE hm λv11 hm hz=>?_));rw [hz2 _ hz] at hm;refine WR ?_;obtain rfl:=OJ hm;exact EndsS.one _ Q (.d _) (.refl _)
   replace hm:=JB h9 hm;refine TS (WK (WT (WN [0,1,12,13] Q Q (TG (GE hm λg12 hm=>SX Q Q (aY Q Q Q Q g12) (SA TK Q (TN ?_)))))));refine WT ?_;exact⟨_,[],(SJ hm),Q,k0,Q⟩
  replace hm:=JF h6 hm;refine aI (WX (IE hm λv13 hm hz=>?_));rw [hz5 _ hz] at hm;refine WX (WH (WT ?_));exact⟨_,[],(SJ hm),Q,k0,Q⟩
 refine WN [] Q Q (RS (SA TK Q (TN (WN [4] Q Q (TR ?_)))));obtain rfl:=OJ hm;exact EndsS.one _ Q (.d _) (.refl _)
theorem qNI {p0:Inter} {p1:Inter} {r:Bool} (hm:sI p0 p1=some r):RetN Tryz.prog 17 [p0.enc,p1.enc] (.bool (r)):=by
 refine .unit (aJ zMY Tryz.func17 Q Tryz.ntmps17 Q Q (λwX gX=>?_)) Q;unfold sI at hm;refine WN [0,1] Q Q (RS (cZ 0 Q Q Q (cZ 1 Q Q Q (SA TK Q (TN (WN [2,3] Q Q (TQ ?_)))))));refine kJ [(22,.d (.bool (((!(decide ((p0.routes.length:Int)=(p1.routes.length:Int))))||(!(decide ((p0.lies.length:Int)=(p1.lies.length:Int))))))))] [22] [2,3] Q ?_ ?_
 ·refine TG (SA TK Q (SA TK Q (SX Q Q (aP TK Q Q Q) (SA TK Q (SA TK Q (SX Q Q (aP TK Q Q Q) (SA TK Q (SB TK Q (λq1 hq1=>?_)))))))));cases q1
  ·refine SA TK Q (SA TK Q (SX Q Q (aP TK Q Q Q) (SA TK Q (SA TK Q (SX Q Q (aP TK Q Q Q) (SA TK Q (SA TK Q (TN (WT ?_)))))))));exact⟨[0,1],Q,k0,dJ (bK (bL (by simp [hq1])) Q) Q⟩
  iterate 8 (refine SA TK Q ?_)
  refine TN (WT ?_);exact⟨[0,1],Q,k0,dJ (bK (bL (by simp [hq1])) Q) Q⟩
 refine WN [2,3,22] Q Q ?_;refine TC _ Q (λh2=>?_) (λh2=>?_)
 ·replace hm:=JA h2 hm;refine RS (SA TK Q (TN (WN [4] Q Q (TR (WR ?_)))));obtain rfl:=OJ hm;exact EndsS.one _ Q (.d _) (.refl _)
 replace hm:=JB h2 hm;refine TS (WT (WN [2,3] Q Q ?_));refine cM hm (λ_=>([]:Fr)) (λ_=>([]:List (Nat×Blk))) [] [2,3] Q (λz3 hm hz3=>?_) (λj hm=>?_)
 ·refine RS (SA TK Q (TN (WN [2,3,5] Q Q (TB (aZ hm (λi5=>([(5,.d (.int .i64 i5))]:Fr)) (λi5=>([]:List (Nat×Blk))) [5] [2,3] [0,1] Q k0 Q Q Q Q Q (λi5 z6 hm hz6=>WN [2,3,5] Q Q (TQ (RS ?_))))))));refine SA TK Q (SA TK Q (SA TK Q (SX Q Q (aP TK Q Q Q) (SA TK Q (TN (WN [2,3,5,27] Q Q ?_))))));refine TC _ Q (λh7=>?_) (λh7=>?_)
  ·replace hm:=JT h7 hm;refine TS (WT (WN [2,3,5] Q Q (TQ (TB (bO follows  ?_)))));iterate 3 (refine DA [0,1] TK Q ?_)
   refine VE hm λe8 he8 hm=>DX [0,1] Q Q (bZ TK Q Q Q Q he8) ?_;iterate 4 (refine DA [0,1] TK Q ?_)
   refine VE hm λe9 he9 hm=>DX [0,1] Q Q (bZ TK Q Q Q Q he9) (DA [0,1] TK Q (GE hm λg10 hm=>DX [0,1] Q Q (qKZ Q Q Q g10.1 g10.2) ?_));refine DT ?_ (by kernel_rfl);refine TN (WN [2,3,5,40] Q Q ?_);refine TC _ Q (λh12=>?_) (λh12=>?_)
   ·replace hm:=dS h12 hm;refine RS (SA TK Q (TN (WN [4] Q Q (TR (WB (WR (IE hm λv13 hm hz=>?_)))))));rw [hz6 _ hz] at hm;refine WR (WB (IE hm λv14 hm hz=>?_));rw [hz3 _ hz] at hm;refine WR ?_;obtain rfl:=OJ hm;exact EndsS.one _ Q (.d _) (.refl _)
   replace hm:=dT h12 hm;refine TS (WK (WT (WN [2,3,5] Q Q (TG (SA TK Q (GE hm λg15 hm=>SX Q Q (aY Q Q Q Q g15) (SA TK Q ?_)))))));refine TN (WT ?_);exact⟨_,[0,1],(SJ hm),Q,k0,Q⟩
  replace hm:=JF h7 hm;refine aI (WX (IE hm λv16 hm hz=>?_));rw [hz6 _ hz] at hm;refine WX (WH (WT ?_));exact⟨_,[0,1],(SJ hm),Q,k0,Q⟩
 refine WN [2,3] Q Q ?_;refine cM hm (λ_=>([]:Fr)) (λ_=>([]:List (Nat×Blk))) [] [] Q (λz17 hm hz17=>?_) (λj hm=>?_)
 ·refine RS (SA TK Q (TN (WN [2,3,6] Q Q (TB (aZ hm (λi19=>([(6,.d (.int .i64 i19))]:Fr)) (λi19=>([]:List (Nat×Blk))) [6] [2,3] [0,1] Q k0 Q Q Q Q Q (λi19 z20 hm hz20=>WN [2,3,6] Q Q (TQ (RS ?_))))))));refine SA TK Q (SA TK Q (SA TK Q (SX Q Q (aP TK Q Q Q) (SA TK Q (TN (WN [2,3,6,45] Q Q ?_))))));refine TC _ Q (λh21=>?_) (λh21=>?_)
  ·replace hm:=JT h21 hm;refine TS (WT (WN [2,3,6] Q Q (TQ (TB (bO follows  ?_)))));iterate 3 (refine DA [0,1] TK Q ?_)
   refine VE hm λe22 he22 hm=>DX [0,1] Q Q (bZ TK Q Q Q Q he22) ?_;iterate 4 (refine DA [0,1] TK Q ?_)
   refine VE hm λe23 he23 hm=>DX [0,1] Q Q (bZ TK Q Q Q Q he23) ?_;iterate 2 (refine DA [0,1] TK Q ?_)
   refine DT ?_ (by kernel_rfl);refine TN (WN [2,3,6,58] Q Q ?_);refine TC _ Q (λh24=>?_) (λh24=>?_)
   ·replace hm:=dS h24 hm;refine RS (SA TK Q (TN (WN [4] Q Q (TR (WB (WR (IE hm λv25 hm hz=>?_)))))));rw [hz20 _ hz] at hm;refine WR (WB (IE hm λv26 hm hz=>?_));rw [hz17 _ hz] at hm;refine WR ?_;obtain rfl:=OJ hm;exact EndsS.one _ Q (.d _) (.refl _)
   replace hm:=dT h24 hm;refine TS (WK (WT (WN [2,3,6] Q Q (TG (SA TK Q (GE hm λg27 hm=>SX Q Q (aY Q Q Q Q g27) (SA TK Q ?_)))))));refine TN (WT ?_);exact⟨_,[0,1],(SJ hm),Q,k0,Q⟩
  replace hm:=JF h21 hm;refine aI (WX (IE hm λv28 hm hz=>?_));rw [hz20 _ hz] at hm;refine WX (WH (WT ?_));exact⟨_,[0,1],(SJ hm),Q,k0,Q⟩
 refine WN [] Q Q (RS (SA TK Q (TN (WN [4] Q Q (TR ?_)))));obtain rfl:=OJ hm;exact EndsS.one _ Q (.d _) (.refl _)
theorem qBV {p0:Table} {r:Inter} (hm:lH p0=some r):RetD Tryz.prog 26 [p0.enc] (r.enc):=by
 refine .of (mv:=λ_=>false) (aJ zMT Tryz.func26 Q Tryz.ntmps26 Q Q (λwX gX=>?_));unfold lH at hm;refine WN [0] Q Q (RS (cZ 0 Q Q Q (cW 1 Q Q oI Q (gN (f:=(D.int .i64)) 1 1 2 3 1 Q Q Q (dK 1 [some 3,none] Q Q (TN (WN [1,2] Q Q (TQ ?_))))))));refine RS (SA TK Q (BE hm λr1 hr1 hm=>SX Q Q (RN Q Q (SC (.d _) SN) (kE hr1)) (SA TK Q (TN (WN [1,2,6] Q Q ?_)))));refine TC _ Q (λh2=>?_) (λh2=>?_)
 ·replace hm:=dS h2 hm;refine RS (SX Q Q (iF Q qXD oI Q Q Q Q) (SA TK Q (gN (f:=(D.int .i64)) 1 1 3 3 1 Q Q Q (dK 1 [some 3,none] Q Q (TN (WN [2] Q Q (TR (WR ?_))))))));obtain rfl:=OJ hm;exact EndsS.cellR _ TK Q Q Q Q Q (iZ (.cons (.d _) Q (.cons (dC Q) Q .nil)))
 replace hm:=dT h2 hm;refine TS (WT (WN [1,2] Q Q (RS (SA TK Q (SA TK Q (SX Q Q (aP TK Q Q Q) (GE hm λg3 hm=>SX Q Q (qAD (f:=RouteState.enc) (x:=(⟨(0:Int),(0:Int),(0:Int)⟩:RouteState)) TK Q Q eX Q Q Q Q Q g3 Q) (SX Q Q (iF Q qXD oI Q Q Q Q) ?_))))))));refine cW 3 Q Q oI Q (gN (f:=(D.int .i64)) 3 1 4 3 1 Q Q Q (dK 3 [some 3,none] Q Q (SA TK Q (gN (f:=(D.int .i64)) 3 1 5 3 1 Q Q Q (TN (WN [1,2,3] Q Q ?_))))));refine aL hm (λb4=>([]:Fr)) (λb4=>([(3,.box 52 [.d (.sl 3 ((List.replicate (p0.routes.length:Int).toNat (⟨(0:Int),(0:Int),(0:Int)⟩:RouteState)).map RouteState.enc)),.msl 5 1 0 b4.length]),(5,.flat 3 1 (b4.map (D.int .i64)))]:List (Nat×Blk))) [] [2,3] Q (λz5 hm=>?_) (λb4 hm=>?_)
 ·refine RS (SA TK Q (SA TK Q (SX Q Q (aP TK Q Q Q) (SA TK Q (TN (WN [2,3,15,16] Q Q (TB (aZ hm (λ(x9,b10)=>([(16,.d (.int .i64 x9))]:Fr)) (λ(x9,b10)=>([(3,.box 52 [.d (.sl 3 ((List.replicate (p0.routes.length:Int).toNat (⟨(0:Int),(0:Int),(0:Int)⟩:RouteState)).map RouteState.enc)),.msl 5 1 0 b10.length]),(5,.flat 3 1 (b10.map (D.int .i64)))]:List (Nat×Blk))) [16] [2,3,15] [0,1,2,3,4,5] Q k0 Q Q Q Q Q (λs z11 hm hz11=>?_)))))))));obtain⟨x9,b10⟩:=s;refine WN [2,3,15,16] Q Q (RS (SA TK Q (TN (WN [2,3,15,16,17] Q Q (TQ ?_)))));refine TC _ Q (λh12=>?_) (λh12=>?_)
  ·replace hm:=JT h12 hm;refine TS (WT (WN [2,3,15,16] Q Q (TQ (TB (TG (SA TK Q (SA TK Q (SX Q Q (fX [.const (Value.int IntKind.i64 1)] TK Q Q lD Q Q Q Q Q) (GE hm λg13 hm=>?_)))))))));refine gI (f:=(D.int .i64)) ([(1:Int)]:List Int) TK Q Q lD Q Q Q Q Q (λh=>absurd h (zQV _)) Q fZ g13 Q Q (SA TK Q (SA TK Q (TN (WK (WT (WN [2,3,15,16] Q Q (TG (GE hm λg14 hm=>SX Q Q (aY Q Q Q Q g14) ?_))))))));refine SA TK Q (TN (WT ?_));exact⟨_,[0,1,2,3,4,5],(SJ hm),Q,k0,Q⟩
  replace hm:=JF h12 hm;refine aI (WX (IE hm λv15 hm hz=>?_));rw [hz11 _ hz] at hm;refine WX (WH (WT ?_));exact⟨_,[0,1,2,3,4,5],(SJ hm),Q,k0,Q⟩
 refine WN [2,3] Q Q (RS (SA TK Q (SA TK Q (TN (WN [2] Q Q (TR ?_))))));obtain rfl:=OJ hm;exact EndsS.cellR _ TK Q Q Q Q Q (iZ (.cons (.d _) Q (.cons (dC Q) Q .nil)))
theorem qOP {p0:(List Int)} {r:(List Int)} (hm:sQ p0=some r):RetD Tryz.prog 71 [.sl 1 (p0.map (D.int .i64))] (.sl 1 (r.map (D.int .i64))):=by
 refine .of (mv:=λ_=>false) (aJ zLQ Tryz.func71 Q Tryz.ntmps71 Q Q (λwX gX=>?_));unfold sQ at hm;refine WN [0] Q Q (RS (SA TK Q (TN (WN [0] Q Q (RS (SA TK Q (BE hm λr1 hr1 hm=>yM Q Q Q (mB hr1) Q Q ?_)))))));refine qZJ 5 (.msl 0 1 0 r1.length) Q Q (SA TK Q (TN (WN [3] Q Q (RS (SA TK Q (GE hm λg2 hm=>?_))))));refine qNC [0] Q Q Q (by simp) Q Q Q (qAW r1 g2) Q Q ?_;refine mD 3 (qF r1).length Q (rH _).symm (mD 6 (qF r1).length Q (rH _).symm (TN (WN [3] Q Q (RS (SA TK Q (GE hm λg3 hm=>?_))))));refine qNC [0] Q Q Q (by simp) Q Q Q (wV (qF r1) g3) Q Q ?_;refine SA TK Q (TN (WN [2] Q Q (TR ?_)));obtain rfl:=OJ hm;exact EndsS.one _ Q (dC Q) (.refl _)
theorem qBP {p0:RouteState} {p1:Int} {r:Bool} (hm:lG p0 p1=some r):RetN Tryz.prog 159 [p0.enc,.int .i64 p1] (.bool (r)):=by
 refine .unit (aJ zGE Tryz.func159 Q Tryz.ntmps159 Q Q (λwX gX=>?_)) Q;unfold lG at hm;refine WN [0,1] Q Q (RS (cZ 0 Q Q Q (SA TK Q (TN (WN [1,2] Q Q (TQ (RS (SA TK Q (SA TK Q ?_)))))))));refine TN (WN [1,2,6] Q Q (TB ?_));refine aL hm (λx1=>([(7,.d (.bool (x1)))]:Fr)) (λx1=>([]:List (Nat×Blk))) [7] [1,2,6] Q (λz2 hm=>?_) (λx1 hm=>?_)
 ·refine RS (SA TK Q (SA TK Q (TN (WN [1,2,6,7] Q Q ?_))));refine TC _ Q (λh3=>?_) (λh3=>?_)
  ·replace hm:=JT h3 hm;refine TS (WT ?_);exact⟨_,[0],(SJ hm),Q,k0,Q⟩
  replace hm:=JF h3 hm;refine RS (SA TK Q (SA TK Q (TN (WN [1,2,6,7] Q Q ?_))));refine TC _ Q (λh4=>?_) (λh4=>?_)
  ·replace hm:=JT h4 hm;refine TS (WT ?_);exact⟨_,[0],(SJ hm),Q,k0,Q⟩
  replace hm:=JF h4 hm;refine TG (SA TK Q (SA TK Q (TN (WT ?_))));exact⟨_,[0],(SJ hm),Q,k0,Q⟩
 refine WN [1,2,6,7] Q Q ?_;refine TC _ Q (λh5=>?_) (λh5=>?_)
 ·replace hm:=JA h5 hm;refine kJ [(4,.d (.bool (((decide (p0.rel=(0:Int)))&&(decide (p0.timer=(0:Int)))))))] [4] [] Q ?_ ?_
  ·refine TG (SA TK Q (SA TK Q (SA TK Q (SB TK Q (λq6 hq6=>?_)))));cases q6
   ·iterate 5 (refine SA TK Q ?_)
    refine TN (WT ?_);exact⟨[0],Q,k0,dJ (bK (bL (by simp [hq6])) Q) Q⟩
   iterate 5 (refine SA TK Q ?_)
   refine TN (WT ?_);exact⟨[0],Q,k0,dJ (bK (bL (by simp [hq6])) Q) Q⟩
  refine WN [4] Q Q (TR (WB (WR ?_)));obtain rfl:=OJ hm;exact EndsS.one _ Q (.d _) (.refl _)
 replace hm:=JB h5 hm;refine RS (SA TK Q (SA TK Q (TN (WN [1,2,6,19] Q Q ?_))));refine TC _ Q (λh7=>?_) (λh7=>?_)
 ·replace hm:=JT h7 hm;refine TQ ?_;refine kJ [(29,.d (.bool (((decide (p0.rel < (0:Int)))||(decide (p1≤p0.rel))))))] [29] [1,2] Q ?_ ?_
  ·refine TG (SA TK Q (SA TK Q (SA TK Q (SB TK Q (λq8 hq8=>?_)))));cases q8
   ·iterate 5 (refine SA TK Q ?_)
    refine TN (WT ?_);exact⟨[0],Q,k0,dJ (bK (bL (by simp [hq8])) Q) Q⟩
   iterate 5 (refine SA TK Q ?_)
   refine TN (WT ?_);exact⟨[0],Q,k0,dJ (bK (bL (by simp [hq8])) Q) Q⟩
  refine WN [1,2,29] Q Q ?_;refine TC _ Q (λh9=>?_) (λh9=>?_)
  ·replace hm:=JA h9 hm;refine RS (SA TK Q (TN (WN [4] Q Q (TR (WR (WB (WR ?_)))))));obtain rfl:=OJ hm;exact EndsS.one _ Q (.d _) (.refl _)
  replace hm:=JB h9 hm;refine TS (WT (WN [1,2] Q Q ?_));refine aL hm (λx10=>([(4,.d (.bool (x10)))]:Fr)) (λx10=>([]:List (Nat×Blk))) [4] [] Q (λz11 hm=>?_) (λx10 hm=>?_)
  ·refine TG (SA TK Q (SA TK Q (SA TK Q (SB TK Q (λq12 hq12=>?_)))));cases q12
   ·replace hm:=JF hq12 hm;refine SA TK Q (SA TK Q (SA TK Q (GE hm λg13 hm=>SX Q Q (aY Q Q Q Q g13) (SA TK Q (SB TK Q (λq14 hq14=>?_))))));cases q14
    ·replace hm:=JF hq14 hm;iterate 11 (refine SA TK Q ?_)
     refine TN (WT ?_);exact⟨_,[0],(SJ hm),Q,k0,Q⟩
    replace hm:=JT hq14 hm;iterate 4 (refine SA TK Q ?_)
    refine SB TK Q (λq15 hq15=>?_);cases q15
    ·replace hm:=JF hq15 hm;iterate 6 (refine SA TK Q ?_)
     refine TN (WT ?_);exact⟨_,[0],(SJ hm),Q,k0,Q⟩
    replace hm:=JT hq15 hm;iterate 6 (refine SA TK Q ?_)
    refine TN (WT ?_);exact⟨_,[0],(SJ hm),Q,k0,Q⟩
   replace hm:=JT hq12 hm;iterate 17 (refine SA TK Q ?_)
   refine TN (WT ?_);exact⟨_,[0],(SJ hm),Q,k0,Q⟩
  refine WN [4] Q Q (TR (WB (WR ?_)));obtain rfl:=OJ hm;exact EndsS.one _ Q (.d _) (.refl _)
 replace hm:=JF h7 hm;refine RS (SA TK Q (SA TK Q (TN (WN [1,2,50] Q Q ?_))));refine TC _ Q (λh16=>?_) (λh16=>?_)
 ·replace hm:=JT h16 hm;refine kJ [(4,.d (.bool (((decide ((0:Int)≤p0.rel))&&((decide (p0.rel < p1))&&((decide ((0:Int)≤p0.timer))&&(decide (p0.timer < (12:Int)))))))))] [4] [] Q ?_ ?_
  ·refine TG (SA TK Q (SA TK Q (SA TK Q (SB TK Q (λq17 hq17=>?_)))));cases q17
   ·iterate 16 (refine SA TK Q ?_)
    refine TN (WT ?_);exact⟨[0],Q,k0,dJ (bK (bL (by simp [hq17])) Q) Q⟩
   iterate 5 (refine SA TK Q ?_)
   refine SB TK Q (λq18 hq18=>?_);cases q18
   ·iterate 10 (refine SA TK Q ?_)
    refine TN (WT ?_);exact⟨[0],Q,k0,dJ (bK (bL (by simp [hq17,hq18])) Q) Q⟩
   iterate 4 (refine SA TK Q ?_)
   refine SB TK Q (λq19 hq19=>?_);cases q19
   ·iterate 5 (refine SA TK Q ?_)
    refine TN (WT ?_);exact⟨[0],Q,k0,dJ (bK (bL (by simp [hq17,hq18,hq19])) Q) Q⟩
   iterate 5 (refine SA TK Q ?_)
   refine TN (WT ?_);exact⟨[0],Q,k0,dJ (bK (bL (by simp [hq17,hq18,hq19])) Q) Q⟩
  refine WN [4] Q Q (TR (WB (WR ?_)));obtain rfl:=OJ hm;exact EndsS.one _ Q (.d _) (.refl _)
 replace hm:=JF h16 hm;refine TS (WK (WT (WN [] Q Q (RS (SA TK Q (TN (WN [4] Q Q (TR ?_))))))));obtain rfl:=OJ hm;exact EndsS.one _ Q (.d _) (.refl _)
theorem qBR {p0:Table} {p1:Inter} {r:Bool} (hm:nR p0 p1=some r):RetN Tryz.prog 129 [p0.enc,p1.enc] (.bool (r)):=by
 refine .unit (aJ zHB Tryz.func129 Q Tryz.ntmps129 Q Q (λwX gX=>?_)) Q;unfold nR at hm;refine WN [0,1] Q Q (RS (cZ 0 Q Q Q (cZ 1 Q Q Q (SA TK Q (TN (WN [2,3] Q Q (TQ ?_)))))));refine aL hm (λx1=>([(29,.d (.bool (x1)))]:Fr)) (λx1=>([]:List (Nat×Blk))) [29] [2,3] Q (λz2 hm=>?_) (λx1 hm=>?_)
 ·refine TG (SA TK Q (BE hm λr3 hr3 hm=>SX Q Q (RN Q Q (SC (.d _) SN) (kE hr3)) (SA TK Q (SB TK Q (λq4 hq4=>?_)))));cases q4
  ·replace hm:=dT hq4 hm;refine SA TK Q (SA TK Q (SX Q Q (aP TK Q Q Q) (SA TK Q (SA TK Q (SX Q Q (aP TK Q Q Q) (SA TK Q (SA TK Q (SB TK Q (λq5 hq5=>?_)))))))));cases q5
   ·replace hm:=dT hq5 hm;refine SA TK Q (SA TK Q (SX Q Q (aP TK Q Q Q) (SA TK Q (SA TK Q (SX Q Q (aP TK Q Q Q) (SA TK Q (SA TK Q (TN (WT ?_)))))))));exact⟨_,[0,1],(SJ hm),Q,k0,Q⟩
   replace hm:=dS hq5 hm;iterate 8 (refine SA TK Q ?_)
   refine TN (WT ?_);exact⟨_,[0,1],(SJ hm),Q,k0,Q⟩
  replace hm:=dS hq4 hm;iterate 17 (refine SA TK Q ?_)
  refine TN (WT ?_);exact⟨_,[0,1],(SJ hm),Q,k0,Q⟩
 refine WN [2,3,29] Q Q ?_;refine TC _ Q (λh6=>?_) (λh6=>?_)
 ·replace hm:=JA h6 hm;refine RS (SA TK Q (TN (WN [4] Q Q (TR (WR ?_)))));obtain rfl:=OJ hm;exact EndsS.one _ Q (.d _) (.refl _)
 replace hm:=JB h6 hm;refine TS (WT (WN [2,3] Q Q ?_));refine cM hm (λ_=>([]:Fr)) (λ_=>([]:List (Nat×Blk))) [] [3] Q (λz7 hm hz7=>?_) (λj hm=>?_)
 ·refine RS (SA TK Q (SA TK Q (SX Q Q (aP TK Q Q Q) (SA TK Q (TN (WN [2,3,31,32,33] Q Q (TB (aZ hm (λx9=>([(33,.d (.int .i64 x9))]:Fr)) (λx9=>([]:List (Nat×Blk))) [33] [2,3,31,32] [0,1] Q k0 Q Q Q Q Q (λx9 z10 hm hz10=>WN [2,3,31,32,33] Q Q ?_)))))))));refine RS (SA TK Q (TN (WN [2,3,31,32,33,34] Q Q (TQ ?_))));refine TC _ Q (λh11=>?_) (λh11=>?_)
  ·replace hm:=JT h11 hm;refine TS (WT (WN [2,3,31,32,33] Q Q (TQ (TB (RS (SA TK Q (VE hm λe12 he12 hm=>SX Q Q (bZ TK Q Q Q Q he12) ?_)))))));refine SA TK Q (cW 2 Q Q eX Q (SA TK Q (SA TK Q (TN (WN [2,3,5,6,31,32,33] Q Q (bO follows  ?_))))));iterate 4 (refine DA [0,1,2] TK Q ?_)
   refine VE hm λe13 he13 hm=>DX [0,1,2] Q Q (bZ TK Q Q Q Q he13) ?_;iterate 2 (refine DA [0,1,2] TK Q ?_)
   refine DX [0,1,2] Q Q (aP TK Q Q Q) (BE hm λr14 hr14 hm=>DX [0,1,2] Q Q (RN Q Q (SC (.d _) (SC (.d _) SN)) (qBP hr14)) (DA [0,1,2] TK Q ?_));refine DT ?_ (by kernel_rfl);refine TN (WN [2,3,31,32,33,47] Q Q ?_);refine TC _ Q (λh15=>?_) (λh15=>?_)
   ·replace hm:=JA h15 hm;refine RS (SA TK Q (TN (WN [4] Q Q (TR (WB (WR (IE hm λv16 hm hz=>?_)))))));rw [hz10 _ hz] at hm;refine WR (WB (IE hm λv17 hm hz=>?_));rw [hz7 _ hz] at hm;refine WR ?_;obtain rfl:=OJ hm;exact EndsS.one _ Q (.d _) (.refl _)
   replace hm:=JB h15 hm;refine TS (WK (WT (WN [2,3,31,32,33] Q Q (TG (GE hm λg18 hm=>SX Q Q (aY Q Q Q Q g18) (SA TK Q (TN ?_)))))));refine WT ?_;exact⟨_,[0,1],(SJ hm),Q,k0,Q⟩
  replace hm:=JF h11 hm;refine aI (WX (IE hm λv19 hm hz=>?_));rw [hz10 _ hz] at hm;refine WX (WH (WT ?_));exact⟨_,[0,1],(SJ hm),Q,k0,Q⟩
 refine WN [3] Q Q ?_;refine cM hm (λ_=>([]:Fr)) (λ_=>([]:List (Nat×Blk))) [] [] Q (λz20 hm hz20=>?_) (λj hm=>?_)
 ·refine RS (SA TK Q (SA TK Q (SX Q Q (aP TK Q Q Q) (SA TK Q (TN (WN [50,51,52] Q Q (TB (aZ hm (λx22=>([(52,.d (.int .i64 x22))]:Fr)) (λx22=>([]:List (Nat×Blk))) [52] [50,51] [0,1] Q k0 Q Q Q Q Q (λx22 z23 hm hz23=>WN [50,51,52] Q Q ?_)))))))));refine RS (SA TK Q (TN (WN [50,51,52,53] Q Q (TQ ?_))));refine TC _ Q (λh24=>?_) (λh24=>?_)
  ·replace hm:=JT h24 hm;refine TS (WT (WN [50,51,52] Q Q (TQ (TB (RS (VE hm λe25 he25 hm=>SX Q Q (bZ TK Q Q Q Q he25) (SA TK Q (SA TK Q ?_))))))));refine TN (WN [8,50,51,52] Q Q ?_);refine kJ [(61,.d (.bool (((!(decide (e25=(1:Int))))&&(!(decide (e25=(2:Int))))))))] [61] [50,51,52] Q ?_ ?_
   ·refine TG (SA TK Q (SA TK Q (SB TK Q (λq26 hq26=>?_))));cases q26
    ·refine SA TK Q (SA TK Q (SA TK Q (TN (WT ?_))));exact⟨[0,1],Q,k0,dJ (bK (bL (by simp [hq26])) Q) Q⟩
    refine SA TK Q (SA TK Q (SA TK Q (TN (WT ?_))));exact⟨[0,1],Q,k0,dJ (bK (bL (by simp [hq26])) Q) Q⟩
   refine WN [50,51,52,61] Q Q ?_;refine TC _ Q (λh27=>?_) (λh27=>?_)
   ·replace hm:=JA h27 hm;refine RS (SA TK Q (TN (WN [4] Q Q (TR (WB (WR (IE hm λv28 hm hz=>?_)))))));rw [hz23 _ hz] at hm;refine WR (WB (IE hm λv29 hm hz=>?_));rw [hz20 _ hz] at hm;refine WR ?_;obtain rfl:=OJ hm;exact EndsS.one _ Q (.d _) (.refl _)
   replace hm:=JB h27 hm;refine TS (WK (WT (WN [50,51,52] Q Q (TG (GE hm λg30 hm=>SX Q Q (aY Q Q Q Q g30) (SA TK Q (TN ?_)))))));refine WT ?_;exact⟨_,[0,1],(SJ hm),Q,k0,Q⟩
  replace hm:=JF h24 hm;refine aI (WX (IE hm λv31 hm hz=>?_));rw [hz23 _ hz] at hm;refine WX (WH (WT ?_));exact⟨_,[0,1],(SJ hm),Q,k0,Q⟩
 refine WN [] Q Q (RS (SA TK Q (TN (WN [4] Q Q (TR ?_)))));obtain rfl:=OJ hm;exact EndsS.one _ Q (.d _) (.refl _)
theorem qBQ {p0:Route} {p1:RouteState} {r:(List Int)} (hm:pO p0 p1=some r):RetD Tryz.prog 160 [p0.enc,p1.enc] (.sl 1 (r.map (D.int .i64))):=by
 refine .of (mv:=λ_=>false) (aJ zGD Tryz.func160 Q Tryz.ntmps160 Q Q (λwX gX=>?_));unfold pO at hm;refine WN [0,1] Q Q (RS (cZ 0 Q Q Q (cZ 1 Q Q Q (SA TK Q (TN (WN [2,3] Q Q (TQ (RS ?_))))))));refine SA TK Q (SA TK Q (SA TK Q (TN (WN [2,3,7] Q Q ?_))));refine TC _ Q (λh1=>?_) (λh1=>?_)
 ·replace hm:=JT h1 hm;refine RS (SA TK Q (TN (qTG 4 [some 1] Q (WN [4] Q Q (TR (WR ?_))))));obtain rfl:=OJ hm;exact EndsS.one _ Q (.d _) (.refl _)
 replace hm:=JF h1 hm;refine TS (WT (WN [2,3] Q Q (RS ?_)));iterate 4 (refine SA TK Q ?_)
 refine GE hm λg2 hm=>SX Q Q (zNQ TK Q Q Q Q Q g2) (BE hm λr3 hr3 hm=>SX Q Q (RD Q Q Q (kW hr3)) (SA TK Q (TN (WN [4] Q Q (TR ?_)))));obtain rfl:=OJ hm;exact EndsS.one _ Q (.d _) (.refl _)
theorem qOF {p0:Route} {p1:RouteState} {r:(List Int)} (hm:sK p0 p1=some r):RetD Tryz.prog 161 [p0.enc,p1.enc] (.sl 1 (r.map (D.int .i64))):=by
 refine .of (mv:=λ_=>false) (aJ zGC Tryz.func161 Q Tryz.ntmps161 Q Q (λwX gX=>?_));unfold sK at hm;refine WN [0,1] Q Q (RS (cZ 0 Q Q Q (cZ 1 Q Q Q (SA TK Q (TN (WN [2,3] Q Q (TQ (RS ?_))))))));refine SA TK Q (SA TK Q (SA TK Q (TN (WN [2,7] Q Q ?_))));refine TC _ Q (λh1=>?_) (λh1=>?_)
 ·replace hm:=JT h1 hm;refine RS (SA TK Q (TN (qTG 4 [some 1] Q (WN [4] Q Q (TR (WR ?_))))));obtain rfl:=OJ hm;exact EndsS.one _ Q (.d _) (.refl _)
 replace hm:=JF h1 hm;refine TS (WT (WN [2] Q Q (RS (SA TK Q (SA TK Q (BE hm λr2 hr2 hm=>SX Q Q (RD Q Q Q (kW hr2)) (SA TK Q (TN ?_))))))));refine WN [4] Q Q (TR ?_);obtain rfl:=OJ hm;exact EndsS.one _ Q (.d _) (.refl _)
theorem sL {p0:Route} {p1:RouteState} {r:(List A2_int)} (hm:kY p0 p1=some r):RetD Tryz.prog 130 [p0.enc,p1.enc] (.sl 2 (r.map A2_int.enc)):=by
 refine .of (mv:=λ_=>false) (aJ zHA Tryz.func130 Q Tryz.ntmps130 Q Q (λwX gX=>?_));unfold kY at hm;refine WN [0,1] Q Q (RS (cZ 0 Q Q Q (cZ 1 Q Q Q (SA TK Q (TN (WN [2,3] Q Q (RS (mC (f:=A2_int.enc) 2 189 2 Q Q Q ?_))))))));refine TN (WN [2,3,5] Q Q ?_);refine aL hm (λb1=>([(5,.msl 2 2 0 b1.length)]:Fr)) (λb1=>([(2,.flat 189 2 (b1.map A2_int.enc))]:List (Nat×Blk))) [5] [2,3] Q (λz2 hm=>?_) (λb1 hm=>?_)
 ·refine RS (SA TK Q (SA TK Q (BE hm λr3 hr3 hm=>SX Q Q (RD Q Q Q (qBQ hr3)) (SX Q Q (aP TK Q Q Q) (SA TK Q (TN (WN [2,3,5,12,13,14] Q Q (TB ?_))))))));refine aZ hm (λ(x7,b8)=>([(5,.msl 2 2 0 b8.length),(14,.d (.int .i64 x7))]:Fr)) (λ(x7,b8)=>([(2,.flat 189 2 (b8.map A2_int.enc))]:List (Nat×Blk))) [5,14] [2,3,12,13] [0,1,2] Q k0 Q Q Q Q Q (λs z9 hm hz9=>?_);obtain⟨x7,b8⟩:=s;refine WN [2,3,5,12,13,14] Q Q (RS (SA TK Q (TN (WN [2,3,5,12,13,14,15] Q Q (TQ ?_)))));refine TC _ Q (λh10=>?_) (λh10=>?_)
  ·replace hm:=JT h10 hm;refine TS (WT (WN [2,3,5,12,13,14] Q Q (TQ (TB (RS (VE hm λe11 he11 hm=>SX Q Q (bZ TK Q Q Q Q he11) (SA TK Q (SA TK Q ?_))))))));refine TN (WN [2,3,5,7,12,13,14] Q Q (TG (SA TK Q (SA TK Q (SX Q Q (qGR Q qNP pX Q Q Q Q) (SX Q Q (fX [.tmp 20] TK Q Q pX Q Q Q Q Q) (GE hm λg12 hm=>gI (f:=A2_int.enc) ([(⟨e11,(0:Int)⟩:A2_int)]:List A2_int) TK Q Q pX Q Q Q Q Q (λh=>absurd h (zQV _)) Q fZ g12 Q Q (SA TK Q ?_))))))));refine TN (WK (WT (WN [2,3,5,12,13,14] Q Q (TG (GE hm λg13 hm=>SX Q Q (aY Q Q Q Q g13) (SA TK Q (TN ?_)))))));refine WT ?_;exact⟨_,[0,1,2],(SJ hm),Q,k0,Q⟩
  replace hm:=JF h10 hm;refine aI (WX (IE hm λv14 hm hz=>?_));rw [hz9 _ hz] at hm;refine WX (WH (WT ?_));exact⟨_,[0,1,2],(SJ hm),Q,k0,Q⟩
 refine WN [2,3,5] Q Q ?_;refine aL hm (λb15=>([(5,.msl 2 2 0 b15.length)]:Fr)) (λb15=>([(2,.flat 189 2 (b15.map A2_int.enc))]:List (Nat×Blk))) [5] [] Q (λz16 hm=>?_) (λb15 hm=>?_)
 ·refine RS (SA TK Q (SA TK Q (BE hm λr17 hr17 hm=>SX Q Q (RD Q Q Q (qOF hr17)) (SX Q Q (aP TK Q Q Q) (SA TK Q (TN (WN [5,26,27,28] Q Q (TB ?_))))))));refine aZ hm (λ(x21,b22)=>([(5,.msl 2 2 0 b22.length),(28,.d (.int .i64 x21))]:Fr)) (λ(x21,b22)=>([(2,.flat 189 2 (b22.map A2_int.enc))]:List (Nat×Blk))) [5,28] [26,27] [0,1,2] Q k0 Q Q Q Q Q (λs z23 hm hz23=>?_);obtain⟨x21,b22⟩:=s;refine WN [5,26,27,28] Q Q (RS (SA TK Q (TN (WN [5,26,27,28,29] Q Q (TQ ?_)))));refine TC _ Q (λh24=>?_) (λh24=>?_)
  ·replace hm:=JT h24 hm;refine TS (WT (WN [5,26,27,28] Q Q (TQ (TB (RS (VE hm λe25 he25 hm=>SX Q Q (bZ TK Q Q Q Q he25) (SA TK Q (SA TK Q ?_))))))));refine TN (WN [5,9,26,27,28] Q Q (TG (SA TK Q (SA TK Q (SX Q Q (qGR Q qNP pX Q Q Q Q) (SX Q Q (fX [.tmp 34] TK Q Q pX Q Q Q Q Q) (GE hm λg26 hm=>gI (f:=A2_int.enc) ([(⟨e25,(1:Int)⟩:A2_int)]:List A2_int) TK Q Q pX Q Q Q Q Q (λh=>absurd h (zQV _)) Q fZ g26 Q Q (SA TK Q ?_))))))));refine TN (WK (WT (WN [5,26,27,28] Q Q (TG (GE hm λg27 hm=>SX Q Q (aY Q Q Q Q g27) (SA TK Q (TN ?_)))))));refine WT ?_;exact⟨_,[0,1,2],(SJ hm),Q,k0,Q⟩
  replace hm:=JF h24 hm;refine aI (WX (IE hm λv28 hm hz=>?_));rw [hz23 _ hz] at hm;refine WX (WH (WT ?_));exact⟨_,[0,1,2],(SJ hm),Q,k0,Q⟩
 refine WN [5] Q Q (RS (SA TK Q (SA TK Q (TN (WN [4] Q Q (TR ?_))))));obtain rfl:=OJ hm;exact EndsS.one _ Q (dC Q) (.refl _)
theorem qEZ {p0:(List A2_int)} {p1:Int} {p2:Int} {r:Bool} (hm:rT p0 p1 p2=some r):RetN Tryz.prog 163 [.sl 2 (p0.map A2_int.enc),.int .i64 p1,.int .i64 p2] (.bool (r)):=by
 refine .unit (aJ zGA Tryz.func163 Q Tryz.ntmps163 Q Q (λwX gX=>?_)) Q;unfold rT at hm;refine WN [0,1,2] Q Q (RS (SA TK Q (TN (WN [0,1,2] Q Q ?_))));refine cM hm (λ_=>([]:Fr)) (λ_=>([]:List (Nat×Blk))) [] [] Q (λz1 hm hz1=>?_) (λj hm=>?_)
 ·refine RS (SA TK Q (SX Q Q (aP TK Q Q Q) (SA TK Q (TN (WN [1,2,9,10,11] Q Q (TB (aZ hm (λx3=>([(11,.d (.int .i64 x3))]:Fr)) (λx3=>([]:List (Nat×Blk))) [11] [1,2,9,10] [] Q k0 Q Q Q Q Q (λx3 z4 hm hz4=>WN [1,2,9,10,11] Q Q ?_))))))));refine RS (SA TK Q (TN (WN [1,2,9,10,11,12] Q Q (TQ ?_))));refine TC _ Q (λh5=>?_) (λh5=>?_)
  ·replace hm:=JT h5 hm;refine TS (WT (WN [1,2,9,10,11] Q Q (TQ (TB (RS (VE hm λe6 he6 hm=>SX Q Q (bZ TK Q Q Q Q he6) (SA TK Q ?_)))))));refine cW 0 Q Q pX Q (SA TK Q (TN (WN [1,2,8,9,10,11] Q Q (RS (SA TK Q (SA TK Q (SA TK Q (SX Q Q (qGR Q qNP pX Q Q Q Q) (GE hm λg7 hm=>SX Q Q (zBN Q Q Q g7.1 g7.2) ?_)))))))));refine TN (WN [1,2,9,10,11,19] Q Q ?_);refine TC _ Q (λh9=>?_) (λh9=>?_)
   ·replace hm:=JT h9 hm;refine RS (SA TK Q (TN (WN [6] Q Q (TR (WB (WR (IE hm λv10 hm hz=>?_)))))));rw [hz4 _ hz] at hm;refine WR (WB (IE hm λv11 hm hz=>?_));rw [hz1 _ hz] at hm;refine WR ?_;obtain rfl:=OJ hm;exact EndsS.one _ Q (.d _) (.refl _)
   replace hm:=JF h9 hm;refine TS (WK (WT (WN [1,2,9,10,11] Q Q (TG (GE hm λg12 hm=>SX Q Q (aY Q Q Q Q g12) (SA TK Q (TN ?_)))))));refine WT ?_;exact⟨_,[],(SJ hm),Q,k0,Q⟩
  replace hm:=JF h5 hm;refine aI (WX (IE hm λv13 hm hz=>?_));rw [hz4 _ hz] at hm;refine WX (WH (WT ?_));exact⟨_,[],(SJ hm),Q,k0,Q⟩
 refine WN [] Q Q (RS (SA TK Q (TN (WN [6] Q Q (TR ?_)))));obtain rfl:=OJ hm;exact EndsS.one _ Q (.d _) (.refl _)
theorem zV {p0:Route} {p1:Route} {p2:(List A2_int)} {p3:(List A2_int)} {r:Bool} (hm:mK p0 p1 p2 p3=some r):RetN Tryz.prog 131 [p0.enc,p1.enc,.sl 2 (p2.map A2_int.enc),.sl 2 (p3.map A2_int.enc)] (.bool (r)):=by
 refine .unit (aJ zGZ Tryz.func131 Q Tryz.ntmps131 Q Q (λwX gX=>?_)) Q;unfold mK at hm;refine WN [0,1,2,3] Q Q (RS (cZ 0 Q Q Q (cZ 1 Q Q Q (SA TK Q (TN (WN [2,3,4,5] Q Q (bO follows  ?_)))))));iterate 2 (refine DA [0,1] TK Q ?_)
 refine BE hm λr1 hr1 hm=>DX [0,1] Q Q (RN Q Q (SC (.d _) (SC (.d _) SN)) (lB hr1)) ?_;iterate 2 (refine DA [0,1] TK Q ?_)
 refine BE hm λr2 hr2 hm=>DX [0,1] Q Q (RN Q Q (SC (.d _) (SC (.d _) SN)) (lB hr2)) ?_;refine DT ?_ (by kernel_rfl);refine SA TK Q (SA TK Q (TN (WN [2,3,9,10] Q Q ?_)));refine cM hm (λ_=>([]:Fr)) (λ_=>([]:List (Nat×Blk))) [] [] Q (λz3 hm hz3=>?_) (λj hm=>?_)
 ·refine RS (SA TK Q (SX Q Q (aP TK Q Q Q) (SA TK Q (TN (WN [3,9,10,19,20,21] Q Q (TB (aZ hm (λx5=>([(21,.d (.int .i64 x5))]:Fr)) (λx5=>([]:List (Nat×Blk))) [21] [3,9,10,19,20] [0,1] Q k0 Q Q Q Q Q (λx5 z6 hm hz6=>WN [3,9,10,19,20,21] Q Q ?_))))))));refine RS (SA TK Q (TN (WN [3,9,10,19,20,21,22] Q Q (TQ ?_))));refine TC _ Q (λh7=>?_) (λh7=>?_)
  ·replace hm:=JT h7 hm;refine TS (WT (WN [3,9,10,19,20,21] Q Q (TQ (TB (RS (VE hm λe8 he8 hm=>SX Q Q (bZ TK Q Q Q Q he8) (SA TK Q ?_)))))));refine cW 2 Q Q pX Q (SA TK Q (TN (WN [3,9,10,12,19,20,21] Q Q (TQ ?_))));refine aL hm (λx9=>([(37,.d (.bool (x9)))]:Fr)) (λx9=>([]:List (Nat×Blk))) [37] [3,9,10,12,19,20,21] Q (λz10 hm=>?_) (λx9 hm=>?_)
   ·refine TG (SA TK Q ?_);refine SX Q Q (sP Q qCN Q Q (by decide) (by decide) Q) ?_;refine SA TK Q (BE hm λr11 hr11 hm=>SX Q Q (RN Q Q (SC (.d _) (SC (.d _) (SC (.d _) SN))) (qEZ hr11)) (SB TK Q (λq12 hq12=>?_)));cases q12
    ·replace hm:=JB hq12 hm;iterate 8 (refine SA TK Q ?_)
     refine TN (WT ?_);exact⟨_,[0,1,2],(SJ hm),Q,k0,Q⟩
    replace hm:=JA hq12 hm;refine SX Q Q (sP Q qCN Q Q (by decide) (by decide) Q) ?_;refine SA TK Q (SA TK Q (SB TK Q (λq13 hq13=>?_)));cases q13
    ·replace hm:=JF hq13 hm;iterate 4 (refine SA TK Q ?_)
     refine TN (WT ?_);exact⟨_,[0,1,2],(SJ hm),Q,k0,Q⟩
    replace hm:=JT hq13 hm;iterate 4 (refine SA TK Q ?_)
    refine TN (WT ?_);exact⟨_,[0,1,2],(SJ hm),Q,k0,Q⟩
   refine WN [3,9,10,12,19,20,21,37] Q Q ?_;refine TC _ Q (λh14=>?_) (λh14=>?_)
   ·replace hm:=JA h14 hm;refine RS (SA TK Q (TN (WN [8] Q Q (TR (WR (WB (WR (IE hm λv15 hm hz=>?_))))))));rw [hz6 _ hz] at hm;refine WR (WB (IE hm λv16 hm hz=>?_));rw [hz3 _ hz] at hm;refine WR ?_;obtain rfl:=OJ hm;exact EndsS.one _ Q (.d _) (.refl _)
   replace hm:=JB h14 hm;refine TS (WT (WN [3,9,10,12,19,20,21] Q Q ?_));refine aL hm (λx17=>([(54,.d (.bool (x17)))]:Fr)) (λx17=>([]:List (Nat×Blk))) [54] [3,9,10,19,20,21] Q (λz18 hm=>?_) (λx17 hm=>?_)
   ·refine TG (SA TK Q ?_);refine SX Q Q (sP Q qCN Q Q (by decide) (by decide) Q) ?_;refine SA TK Q (BE hm λr19 hr19 hm=>SX Q Q (RN Q Q (SC (.d _) (SC (.d _) (SC (.d _) SN))) (qEZ hr19)) (SB TK Q (λq20 hq20=>?_)));cases q20
    ·replace hm:=JB hq20 hm;iterate 12 (refine SA TK Q ?_)
     refine TN (WT ?_);exact⟨_,[0,1,2],(SJ hm),Q,k0,Q⟩
    replace hm:=JA hq20 hm;refine SA TK Q (SA TK Q (SA TK Q (SB TK Q (λq21 hq21=>?_))));cases q21
    ·replace hm:=JB hq21 hm;iterate 8 (refine SA TK Q ?_)
     refine TN (WT ?_);exact⟨_,[0,1,2],(SJ hm),Q,k0,Q⟩
    replace hm:=JA hq21 hm;refine SX Q Q (sP Q qCN Q Q (by decide) (by decide) Q) ?_;refine SA TK Q (SA TK Q (SB TK Q (λq22 hq22=>?_)));cases q22
    ·replace hm:=JF hq22 hm;iterate 4 (refine SA TK Q ?_)
     refine TN (WT ?_);exact⟨_,[0,1,2],(SJ hm),Q,k0,Q⟩
    replace hm:=JT hq22 hm;iterate 4 (refine SA TK Q ?_)
    refine TN (WT ?_);exact⟨_,[0,1,2],(SJ hm),Q,k0,Q⟩
   refine WN [3,9,10,19,20,21,54] Q Q ?_;refine TC _ Q (λh23=>?_) (λh23=>?_)
   ·replace hm:=JA h23 hm;refine RS (SA TK Q (TN (WN [8] Q Q (TR (WB (WR (IE hm λv24 hm hz=>?_)))))));rw [hz6 _ hz] at hm;refine WR (WB (IE hm λv25 hm hz=>?_));rw [hz3 _ hz] at hm;refine WR ?_;obtain rfl:=OJ hm;exact EndsS.one _ Q (.d _) (.refl _)
   replace hm:=JB h23 hm;refine TS (WK (WT (WN [3,9,10,19,20,21] Q Q (TG (GE hm λg26 hm=>SX Q Q (aY Q Q Q Q g26) (SA TK Q (TN ?_)))))));refine WT ?_;exact⟨_,[0,1],(SJ hm),Q,k0,Q⟩
  replace hm:=JF h7 hm;refine aI (WX (IE hm λv27 hm hz=>?_));rw [hz6 _ hz] at hm;refine WX (WH (WT ?_));exact⟨_,[0,1],(SJ hm),Q,k0,Q⟩
 refine WN [] Q Q (RS (SA TK Q (TN (WN [8] Q Q (TR ?_)))));obtain rfl:=OJ hm;exact EndsS.one _ Q (.d _) (.refl _)
theorem qSK {p0:(List Int)} {p1:Int} {r:Bool} (hm:uQ p0 p1=some r):RetN Tryz.prog 164 [.sl 1 (p0.map (D.int .i64)),.int .i64 p1] (.bool (r)):=by
 refine .unit (aJ zFZ Tryz.func164 Q Tryz.ntmps164 Q Q (λwX gX=>?_)) Q;unfold uQ at hm;refine WN [0,1] Q Q (RS (SA TK Q (TN (WN [0,1] Q Q (RS (SA TK Q (SA TK Q (BE hm λr1 hr1 hm=>SX Q Q (RN Q Q (SC (.d _) (SC (.d _) SN)) (cY hr1)) ?_))))))));refine SA TK Q (TN (WN [4] Q Q (TR ?_)));obtain rfl:=OJ hm;exact EndsS.one _ Q (.d _) (.refl _)
theorem zW {p0:Table} {p1:Route} {p2:RouteState} {r:(List Setting)} (hm:oC p0 p1 p2=some r):RetD Tryz.prog 132 [p0.enc,p1.enc,p2.enc] (.sl 2 (r.map Setting.enc)):=by
 refine .of (mv:=λ_=>false) (aJ zGY Tryz.func132 Q Tryz.ntmps132 Q Q (λwX gX=>?_));unfold oC at hm;refine WN [0,1,2] Q Q (RS (cZ 0 Q Q Q (cZ 1 Q Q Q (cZ 2 Q Q Q (SA TK Q (TN (WN [3,4,5] Q Q (TQ ?_))))))));refine RS (SA TK Q (SA TK Q (SA TK Q (TN (WN [3,4,5,12] Q Q ?_)))));refine TC _ Q (λh1=>?_) (λh1=>?_)
 ·replace hm:=JT h1 hm;refine RS (SA TK Q (TN (qTG 6 [some 2] Q (WN [6] Q Q (TR (WR ?_))))));obtain rfl:=OJ hm;exact EndsS.one _ Q (.d _) (.refl _)
 replace hm:=JF h1 hm;refine TS (WT (WN [3,4,5] Q Q (RS (mC (f:=Setting.enc) 3 133 2 Q Q Q (TN (WN [3,4,5,7] Q Q ?_))))));refine aL hm (λb2=>([(7,.msl 3 2 0 b2.length)]:Fr)) (λb2=>([(3,.flat 133 2 (b2.map Setting.enc))]:List (Nat×Blk))) [7] [4] Q (λz3 hm=>?_) (λb2 hm=>?_)
 ·refine RS (SA TK Q (SA TK Q (SX Q Q (aP TK Q Q Q) (SA TK Q (TN (WN [3,4,5,7,14,15,16] Q Q (TB (aZ hm (λ(x7,b8)=>([(7,.msl 3 2 0 b8.length),(16,.d (.int .i64 x7))]:Fr)) (λ(x7,b8)=>([(3,.flat 133 2 (b8.map Setting.enc))]:List (Nat×Blk))) [7,16] [3,4,5,14,15] [0,1,2,3] Q k0 Q Q Q Q Q (λs z9 hm hz9=>?_)))))))));obtain⟨x7,b8⟩:=s;refine WN [3,4,5,7,14,15,16] Q Q (RS (SA TK Q (TN (WN [3,4,5,7,14,15,16,17] Q Q (TQ ?_)))));refine TC _ Q (λh10=>?_) (λh10=>?_)
  ·replace hm:=JT h10 hm;refine TS (WT (WN [3,4,5,7,14,15,16] Q Q (TQ (TB (RS (VE hm λe11 he11 hm=>SX Q Q (bZ TK Q Q Q Q he11) (SA TK Q ?_)))))));refine cW 4 Q Q gQ Q (SA TK Q (TN (WN [3,4,5,7,9,14,15,16] Q Q (bO follows  ?_))));iterate 4 (refine DA [0,1,2,3,4] TK Q ?_)
   refine GE hm λg12 hm=>DX [0,1,2,3,4] Q Q (zNQ TK Q Q Q Q Q g12) ?_;iterate 5 (refine DA [0,1,2,3,4] TK Q ?_)
   refine BE hm λr13 hr13 hm=>DX [0,1,2,3,4] Q Q (RN Q Q (SC (.d _) (SC (.d _) SN)) (fW hr13)) (VE hm λe14 he14 hm=>DX [0,1,2,3,4] Q Q (bZ TK Q Q Q Q he14) (DA [0,1,2,3,4] TK Q (BE hm λr15 hr15 hm=>DX [0,1,2,3,4] Q Q (RN Q Q (SC (.d _) (SC (.d _) SN)) (qSK hr15)) (DA [0,1,2,3,4] TK Q ?_))));refine DT ?_ (by kernel_rfl);refine TN (WN [3,4,5,7,9,14,15,16,34] Q Q ?_);refine TC _ Q (λh16=>?_) (λh16=>?_)
   ·replace hm:=JA h16 hm;refine TG (SA TK Q (SA TK Q (SX Q Q (fX [.tmp 36] TK Q Q gQ Q Q Q Q Q) (GE hm λg17 hm=>gI (f:=Setting.enc) ([e11]:List Setting) TK Q Q gQ Q Q Q Q Q (λh=>absurd h (zQV _)) Q fZ g17 Q Q (SA TK Q (TN (WK (WT ?_))))))));refine WN [3,4,5,7,14,15,16] Q Q (TG (GE hm λg18 hm=>SX Q Q (aY Q Q Q Q g18) (SA TK Q (TN (WT ?_)))));exact⟨_,[0,1,2,3],(SJ hm),Q,k0,Q⟩
   replace hm:=JB h16 hm;refine TS (WK (WT (WN [3,4,5,7,14,15,16] Q Q (TG (GE hm λg19 hm=>SX Q Q (aY Q Q Q Q g19) (SA TK Q (TN ?_)))))));refine WT ?_;exact⟨_,[0,1,2,3],(SJ hm),Q,k0,Q⟩
  replace hm:=JF h10 hm;refine aI (WX (IE hm λv20 hm hz=>?_));rw [hz9 _ hz] at hm;refine WX (WH (WT ?_));exact⟨_,[0,1,2,3],(SJ hm),Q,k0,Q⟩
 refine WN [4,7] Q Q ?_;refine tC 7 3 [4] Q Q Q Q Q (by simp) Q Q ?_;refine RS ?_;iterate 5 (refine SA TK Q ?_)
 refine SX Q Q (cI Q zDE jK Q Q Q Q) (qQK 45 [none,none,none,some 3,none,some 1,none,none,some 3,none,some 1,none,some 1,some 2] Q (BE hm λr21 hr21 hm=>SX Q Q (RD Q Q Q (fP hr21)) (SA TK Q (TN (WN [6] Q Q (TR ?_))))));obtain rfl:=OJ hm;exact EndsS.one _ Q (.d _) (.refl _)
theorem zX {p0:Table} {p1:Inter} {r:Bool} (hm:oD p0 p1=some r):RetN Tryz.prog 72 [p0.enc,p1.enc] (.bool (r)):=by
 refine .unit (aJ zLP Tryz.func72 Q Tryz.ntmps72 Q Q (λwX gX=>?_)) Q;unfold oD at hm;refine WN [0,1] Q Q (RS (cZ 0 Q Q Q (cZ 1 Q Q Q (SA TK Q (TN (WN [2,3] Q Q (TQ (RS ?_))))))));refine SA TK Q (SA TK Q (BE hm λr1 hr1 hm=>SX Q Q (RN Q Q (SC (.d _) (SC (.d _) SN)) (qBR hr1)) (SA TK Q (TN (WN [2,3,17] Q Q ?_)))));refine TC _ Q (λh2=>?_) (λh2=>?_)
 ·replace hm:=JA h2 hm;refine RS (SA TK Q (TN (WN [4] Q Q (TR (WR ?_)))));obtain rfl:=OJ hm;exact EndsS.one _ Q (.d _) (.refl _)
 replace hm:=JB h2 hm;refine TS (WT (WN [2,3] Q Q (RS (mC (f:=(λ(l:List A2_int)=>D.sl 2 (l.map A2_int.enc))) 2 150 1 Q Q Q (TN (WN [2,3,5] Q Q ?_))))));refine aL hm (λb3=>([(5,.msl 2 1 0 b3.length)]:Fr)) (λb3=>([(2,.flat 150 1 (b3.map (λ(l:List A2_int)=>D.sl 2 (l.map A2_int.enc))))]:List (Nat×Blk))) [5] [2,3] Q (λz4 hm=>?_) (λb3 hm=>?_)
 ·refine RS (SA TK Q (SA TK Q (SX Q Q (aP TK Q Q Q) (SA TK Q (TN (WN [2,3,5,19,20,21] Q Q (TB (aZ hm (λ(x8,b9)=>([(5,.msl 2 1 0 b9.length),(21,.d (.int .i64 x8))]:Fr)) (λ(x8,b9)=>([(2,.flat 150 1 (b9.map (λ(l:List A2_int)=>D.sl 2 (l.map A2_int.enc))))]:List (Nat×Blk))) [5,21] [2,3,19,20] [0,1,2] Q k0 Q Q Q Q Q (λs z10 hm hz10=>?_)))))))));obtain⟨x8,b9⟩:=s;refine WN [2,3,5,19,20,21] Q Q (RS (SA TK Q (TN (WN [2,3,5,19,20,21,22] Q Q (TQ ?_)))));refine TC _ Q (λh11=>?_) (λh11=>?_)
  ·replace hm:=JT h11 hm;refine TS (WT (WN [2,3,5,19,20,21] Q Q (TQ (TB (RS (SA TK Q (VE hm λe12 he12 hm=>SX Q Q (bZ TK Q Q Q Q he12) ?_)))))));refine SA TK Q (cW 3 Q Q jK Q (dK 3 [none,none,none,some 3,some 2,some 1,none,none,some 3,some 2,some 1,some 2,some 1,some 2] Q Q (SA TK Q (SA TK Q (TN (WN [2,3,5,6,7,19,20,21] Q Q (cU follows  ?_)))))));iterate 5 (refine DA [0,1,2,3] TK Q ?_)
   refine VE hm λe13 he13 hm=>DX [0,1,2,3] Q Q (bZ TK Q Q Q Q he13) (DA [0,1,2,3] TK Q (BE hm λr14 hr14 hm=>DX [0,1,2,3] Q Q (RD Q Q Q (sL hr14)) (DX [0,1,2,3] Q Q (fX [.tmp 33] TK Q Q qWP Q Q Q Q Q) ?_)));refine DT ?_ (by kernel_rfl);refine GE hm λg15 hm=>gI (f:=(λ(l:List A2_int)=>D.sl 2 (l.map A2_int.enc))) ([r14]:List (List A2_int)) TK Q Q qWP Q Q Q Q Q (λh=>absurd h (zQV _)) Q fZ g15 Q Q (SA TK Q (TN (WK (WT (WN [2,3,5,19,20,21] Q Q (TG (GE hm λg16 hm=>?_)))))));refine SX Q Q (aY Q Q Q Q g16) (SA TK Q (TN (WT ?_)));exact⟨_,[0,1,2],(SJ hm),Q,k0,Q⟩
  replace hm:=JF h11 hm;refine aI (WX (IE hm λv17 hm hz=>?_));rw [hz10 _ hz] at hm;refine WX (WH (WT ?_));exact⟨_,[0,1,2],(SJ hm),Q,k0,Q⟩
 refine WN [2,3,5] Q Q ?_;refine cM hm (λ_=>([]:Fr)) (λ_=>([]:List (Nat×Blk))) [] [2,3] Q (λz18 hm hz18=>?_) (λj hm=>?_)
 ·refine RS (SA TK Q (SA TK Q (SX Q Q (aP TK Q Q Q) (SA TK Q (TN (WN [2,3,5,39,40] Q Q (TB (aZ hm (λx20=>([(40,.d (.int .i64 x20))]:Fr)) (λx20=>([]:List (Nat×Blk))) [40] [2,3,5,39] [0,1,2] Q k0 Q Q Q Q Q (λx20 z21 hm hz21=>WN [2,3,5,39,40] Q Q ?_)))))))));refine RS (SA TK Q (TN (WN [2,3,5,39,40,41] Q Q (TQ ?_))));refine TC _ Q (λh22=>?_) (λh22=>?_)
  ·replace hm:=JT h22 hm;refine TS (WT (WN [2,3,5,39,40] Q Q ?_));refine cM hm (λ_=>([]:Fr)) (λ_=>([]:List (Nat×Blk))) [] [2,3,5,39,40] Q (λz23 hm hz23=>?_) (λj hm=>?_)
   ·refine TB (RS (SA TK Q (SA TK Q (TN (WN [2,3,5,8,39,40] Q Q (RS (SA TK Q (SA TK Q (TN (WN [2,3,5,8,39,40,43,44] Q Q ?_))))))))));refine TB (aZ hm (λx25=>([(44,.d (.int .i64 x25))]:Fr)) (λx25=>([]:List (Nat×Blk))) [44] [2,3,5,8,39,40,43] [0,1,2] Q k0 Q Q Q Q Q (λx25 z26 hm hz26=>WN [2,3,5,8,39,40,43,44] Q Q (RS (SA TK Q (TN (WN [2,3,5,8,39,40,43,44,45] Q Q (TQ ?_)))))));refine TC _ Q (λh27=>?_) (λh27=>?_)
    ·replace hm:=JT h27 hm;refine TS (WT (WN [2,3,5,8,39,40,43,44] Q Q (TQ (TB (RS (SA TK Q (SA TK Q (TN (WN [2,3,5,8,9,39,40,43,44] Q Q ?_)))))))));refine bO follows  ?_;iterate 3 (refine DA [0,1,2] TK Q ?_)
     refine VE hm λe28 he28 hm=>DX [0,1,2] Q Q (bZ TK Q Q Q Q he28) ?_;iterate 4 (refine DA [0,1,2] TK Q ?_)
     refine VE hm λe29 he29 hm=>DX [0,1,2] Q Q (bZ TK Q Q Q Q he29) ?_;iterate 3 (refine DA [0,1,2] TK Q ?_)
     refine VE hm λe30 he30 hm=>DX [0,1,2] Q Q (pF TK Q Q Q Q he30 Q) (DX [0,1,2] Q Q (qGX TK Q Q Q Q he30.2 Q) ?_);iterate 2 (refine DA [0,1,2] TK Q ?_)
     refine VE hm λe31 he31 hm=>DX [0,1,2] Q Q (pF TK Q Q Q Q he31 Q) (DX [0,1,2] Q Q (qGX TK Q Q Q Q he31.2 Q) (BE hm λr32 hr32 hm=>DX [0,1,2] Q Q (RN Q Q (SC (.d _) (SC (.d _) (SC (.d _) (SC (.d _) SN)))) (zV hr32)) ?_));refine DT ?_ (by kernel_rfl);refine TN (WN [2,3,5,8,39,40,43,44,65] Q Q ?_);refine TC _ Q (λh33=>?_) (λh33=>?_)
     ·replace hm:=JA h33 hm;refine RS (SA TK Q (TN (WN [4] Q Q (TR (WB (WR (IE hm λv34 hm hz=>?_)))))));rw [hz26 _ hz] at hm;refine WR (WB (WB (IE hm λv35 hm hz=>?_)));rw [hz23 _ hz] at hm;refine WR (IE hm λv36 hm hz=>?_);rw [hz21 _ hz] at hm;refine WR (WB (IE hm λv37 hm hz=>?_));rw [hz18 _ hz] at hm;refine WR ?_;obtain rfl:=OJ hm;exact EndsS.one _ Q (.d _) (.refl _)
     replace hm:=JB h33 hm;refine TS (WK (WT (WN [2,3,5,8,39,40,43,44] Q Q (TG (GE hm λg38 hm=>SX Q Q (aY Q Q Q Q g38) (SA TK Q (TN ?_)))))));refine WT ?_;exact⟨_,[0,1,2],(SJ hm),Q,k0,Q⟩
    replace hm:=JF h27 hm;refine aI (WX (IE hm λv39 hm hz=>?_));rw [hz26 _ hz] at hm;refine WX (WH (WK (WT ?_)));exact⟨_,[0,1,2],(SJ hm),Q,k0,Q⟩
   refine WN [2,3,5,39,40] Q Q (TG (GE hm λg40 hm=>SX Q Q (aY Q Q Q Q g40) (SA TK Q (TN (WT ?_)))));exact⟨_,[0,1,2],(SJ hm),Q,k0,Q⟩
  replace hm:=JF h22 hm;refine aI (WX (IE hm λv41 hm hz=>?_));rw [hz21 _ hz] at hm;refine WX (WH (WT ?_));exact⟨_,[0,1,2],(SJ hm),Q,k0,Q⟩
 refine WN [2,3] Q Q ?_;refine cM hm (λ_=>([]:Fr)) (λ_=>([]:List (Nat×Blk))) [] [] Q (λz42 hm hz42=>?_) (λj hm=>?_)
 ·refine RS (SA TK Q (SA TK Q (SX Q Q (aP TK Q Q Q) (SA TK Q (TN (WN [2,3,69,70,71] Q Q (TB (aZ hm (λx44=>([(71,.d (.int .i64 x44))]:Fr)) (λx44=>([]:List (Nat×Blk))) [71] [2,3,69,70] [0,1,2] Q k0 Q Q Q Q Q (λx44 z45 hm hz45=>WN [2,3,69,70,71] Q Q ?_)))))))));refine RS (SA TK Q (TN (WN [2,3,69,70,71,72] Q Q (TQ ?_))));refine TC _ Q (λh46=>?_) (λh46=>?_)
  ·replace hm:=JT h46 hm;refine TS (WT (WN [2,3,69,70,71] Q Q ?_));refine cM hm (λ_=>([]:Fr)) (λ_=>([]:List (Nat×Blk))) [] [2,3,69,70,71] Q (λz47 hm hz47=>?_) (λj hm=>?_)
   ·refine TB (RS (SA TK Q (VE hm λe48 he48 hm=>SX Q Q (bZ TK Q Q Q Q he48) (SA TK Q (cW 3 Q Q jK Q (dK 3 [none,none,none,some 3,some 2,some 1,none,none,some 3,some 2,some 1,some 2,some 1,some 2] Q Q (SA TK Q (SA TK Q ?_))))))));refine TN (WN [2,3,10,11,69,70,71] Q Q (bO follows  ?_));iterate 5 (refine DA [0,1,2,3] TK Q ?_)
    refine VE hm λe49 he49 hm=>DX [0,1,2,3] Q Q (bZ TK Q Q Q Q he49) (DA [0,1,2,3] TK Q (BE hm λr50 hr50 hm=>DX [0,1,2,3] Q Q (RD Q Q Q (zW hr50)) (DX [0,1,2,3] Q Q (aP TK Q Q Q) (DA [0,1,2,3] TK Q ?_))));refine DT ?_ (by kernel_rfl);refine TN (WN [2,3,69,70,71,83,84,85] Q Q (TB (aZ hm (λx52=>([(85,.d (.int .i64 x52))]:Fr)) (λx52=>([]:List (Nat×Blk))) [85] [2,3,69,70,71,83,84] [0,1,2] Q k0 Q Q Q Q Q (λx52 z53 hm hz53=>WN [2,3,69,70,71,83,84,85] Q Q (RS (SA TK Q (TN (WN [2,3,69,70,71,83,84,85,86] Q Q ?_))))))));refine TQ ?_;refine TC _ Q (λh54=>?_) (λh54=>?_)
    ·replace hm:=JT h54 hm;refine TS (WT (WN [2,3,69,70,71,83,84,85] Q Q (TQ (TB (RS (VE hm λe55 he55 hm=>SX Q Q (bZ TK Q Q Q Q he55) (SA TK Q ?_)))))));refine cW 3 Q Q gQ Q (SA TK Q (TN (WN [2,3,13,69,70,71,83,84,85] Q Q (bO follows  ?_))));iterate 5 (refine DA [0,1,2,3] TK Q ?_)
     refine BE hm λr56 hr56 hm=>DX [0,1,2,3] Q Q (RN Q Q (SC (.d _) (SC (.d _) SN)) (fW hr56)) (VE hm λe57 he57 hm=>DX [0,1,2,3] Q Q (bZ TK Q Q Q Q he57) ?_);iterate 4 (refine DA [0,1,2,3] TK Q ?_)
     refine DT ?_ (by kernel_rfl);refine TN (WN [2,3,69,70,71,83,84,85,99] Q Q ?_);refine TC _ Q (λh58=>?_) (λh58=>?_)
     ·replace hm:=dS h58 hm;refine RS (SA TK Q (TN (WN [4] Q Q (TR (WB (WR (IE hm λv59 hm hz=>?_)))))));rw [hz53 _ hz] at hm;refine WR (WB (WB (IE hm λv60 hm hz=>?_)));rw [hz47 _ hz] at hm;refine WR (IE hm λv61 hm hz=>?_);rw [hz45 _ hz] at hm;refine WR (WB (IE hm λv62 hm hz=>?_));rw [hz42 _ hz] at hm;refine WR ?_;obtain rfl:=OJ hm;exact EndsS.one _ Q (.d _) (.refl _)
     replace hm:=dT h58 hm;refine TS (WK (WT (WN [2,3,69,70,71,83,84,85] Q Q (TG (GE hm λg63 hm=>SX Q Q (aY Q Q Q Q g63) (SA TK Q (TN ?_)))))));refine WT ?_;exact⟨_,[0,1,2],(SJ hm),Q,k0,Q⟩
    replace hm:=JF h54 hm;refine aI (WX (IE hm λv64 hm hz=>?_));rw [hz53 _ hz] at hm;refine WX (WH (WK (WT ?_)));exact⟨_,[0,1,2],(SJ hm),Q,k0,Q⟩
   refine WN [2,3,69,70,71] Q Q (TG (GE hm λg65 hm=>SX Q Q (aY Q Q Q Q g65) (SA TK Q (TN (WT ?_)))));exact⟨_,[0,1,2],(SJ hm),Q,k0,Q⟩
  replace hm:=JF h46 hm;refine aI (WX (IE hm λv66 hm hz=>?_));rw [hz45 _ hz] at hm;refine WX (WH (WT ?_));exact⟨_,[0,1,2],(SJ hm),Q,k0,Q⟩
 refine WN [] Q Q (RS (SA TK Q (TN (WN [4] Q Q (TR ?_)))));obtain rfl:=OJ hm;exact EndsS.one _ Q (.d _) (.refl _)
theorem vJ {p0:(List Int)} {p1:Int→Option Bool} {c1:D} (hf1:∀ a0 r,p1 a0=some r→∃ F cs,qOS c1=some (F,cs)∧RetD Tryz.prog F ([.int .i64 a0]++cs) (.bool (r))) {r:Int} (hm:jX p0 p1=some r):RetN Tryz.prog 187 [.sl 1 (p0.map (D.int .i64)),c1] (.int .i64 r):=by
 refine .unit (aJ zFP Tryz.func187 Q Tryz.ntmps187 Q Q (λwX gX=>?_)) Q;unfold jX at hm;refine WN [0,1] Q Q (RS (SA TK Q (TN (WN [0,1] Q Q ?_))));refine cM hm (λ_=>([]:Fr)) (λ_=>([]:List (Nat×Blk))) [] [] Q (λz1 hm hz1=>?_) (λj hm=>?_)
 ·refine RS (SA TK Q (SX Q Q (aP TK Q Q Q) (SA TK Q (TN (WN [0,1,7,8] Q Q (TB (aZ hm (λx3=>([(8,.d (.int .i64 x3))]:Fr)) (λx3=>([]:List (Nat×Blk))) [8] [0,1,7] [] Q k0 Q Q Q Q Q (λx3 z4 hm hz4=>WN [0,1,7,8] Q Q ?_))))))));refine RS (SA TK Q (TN (WN [0,1,7,8,9] Q Q (TQ ?_))));refine TC _ Q (λh5=>?_) (λh5=>?_)
  ·replace hm:=JT h5 hm;refine TS (WT (WN [0,1,7,8] Q Q (TQ (TB (RS (SA TK Q (SA TK Q (TN (WN [0,1,5,7,8] Q Q ?_)))))))));refine RS (SA TK Q (SA TK Q (SA TK Q (VE hm λe6 he6 hm=>SX Q Q (bZ TK Q Q Q Q he6) (SA TK Q (BE hm λr7 hr7 hm=>?_))))));obtain⟨Fr7,csr7,hFr7,hcr7⟩:=hf1 _ _ hr7;refine SX Q Q (zCW Q Q hFr7 Q hcr7) (TN (WN [0,1,5,7,8,16] Q Q ?_));refine TC _ Q (λh8=>?_) (λh8=>?_)
   ·replace hm:=JA h8 hm;refine RS (SA TK Q (SA TK Q (TN (WN [4] Q Q (TR (WB (WR (IE hm λv9 hm hz=>?_))))))));rw [hz4 _ hz] at hm;refine WR (WB (IE hm λv10 hm hz=>?_));rw [hz1 _ hz] at hm;refine WR ?_;obtain rfl:=OJ hm;exact EndsS.one _ Q (.d _) (.refl _)
   replace hm:=JB h8 hm;refine TS (WK (WT (WN [0,1,7,8] Q Q (TG (GE hm λg11 hm=>SX Q Q (aY Q Q Q Q g11) (SA TK Q (TN ?_)))))));refine WT ?_;exact⟨_,[],(SJ hm),Q,k0,Q⟩
  replace hm:=JF h5 hm;refine aI (WX (IE hm λv12 hm hz=>?_));rw [hz4 _ hz] at hm;refine WX (WH (WT ?_));exact⟨_,[],(SJ hm),Q,k0,Q⟩
 refine WN [] Q Q (RS (SA TK Q (TN (WN [4] Q Q (TR ?_)))));obtain rfl:=OJ hm;exact EndsS.one _ Q (.d _) (.refl _)
theorem tH {p0:(List Int)} {p1:Int→Option Bool} {c1:D} (hf1:∀ a0 r,p1 a0=some r→∃ F cs,qOS c1=some (F,cs)∧RetD Tryz.prog F ([.int .i64 a0]++cs) (.bool (r))) {r:Bool} (hm:eO p0 p1=some r):RetN Tryz.prog 165 [.sl 1 (p0.map (D.int .i64)),c1] (.bool (r)):=by
 refine .unit (aJ zFY Tryz.func165 Q Tryz.ntmps165 Q Q (λwX gX=>?_)) Q;unfold eO at hm;refine WN [0,1] Q Q (RS (SA TK Q (TN (WN [0,1] Q Q (RS (SA TK Q (SA TK Q (BE hm λr1 hr1 hm=>SX Q Q (RN Q Q (SC (.d _) (SC (.d _) SN)) (vJ hf1 hr1)) ?_))))))));refine SA TK Q (SA TK Q (TN (WN [4] Q Q (TR ?_))));obtain rfl:=OJ hm;exact EndsS.one _ Q (.d _) (.refl _)
theorem qAG {p0:Int} {r:Bool} (hm:mT p0=some r):RetN Tryz.prog 166 [.int .i64 p0] (.bool (r)):=by
 refine .unit (aJ zFX Tryz.func166 Q Tryz.ntmps166 Q Q (λwX gX=>?_)) Q;unfold mT at hm;refine WN [0] Q Q (RS (SA TK Q (TN (WN [0] Q Q ?_))));refine kJ [(2,.d (.bool (((!(decide (p0=(1:Int))))&&(!(decide (p0=(2:Int))))))))] [2] [] Q ?_ ?_
 ·refine TG (SA TK Q (SA TK Q (SB TK Q (λq1 hq1=>?_))));cases q1
  ·iterate 4 (refine SA TK Q ?_)
   refine TN (WT ?_);exact⟨[],Q,k0,dJ (bK (bL (by simp [hq1])) Q) Q⟩
  iterate 4 (refine SA TK Q ?_)
  refine TN (WT ?_);exact⟨[],Q,k0,dJ (bK (bL (by simp [hq1])) Q) Q⟩
 refine WN [2] Q Q (TR ?_);obtain rfl:=OJ hm;exact EndsS.one _ Q (.d _) (.refl _)
theorem qFR {p0:Table} {p1:Inter} {r:Bool} (hm:nC p0 p1=some r):RetN Tryz.prog 134 [p0.enc,p1.enc] (.bool (r)):=by
 refine .unit (aJ zGW Tryz.func134 Q Tryz.ntmps134 Q Q (λwX gX=>?_)) Q;unfold nC at hm;refine WN [0,1] Q Q (RS (cZ 0 Q Q Q (cZ 1 Q Q Q (SA TK Q (TN (WN [2,3] Q Q (TQ ?_)))))));refine aL hm (λx1=>([(29,.d (.bool (x1)))]:Fr)) (λx1=>([]:List (Nat×Blk))) [29] [2,3] Q (λz2 hm=>?_) (λx1 hm=>?_)
 ·refine TG (SA TK Q (BE hm λr3 hr3 hm=>SX Q Q (RN Q Q (SC (.d _) SN) (kE hr3)) (SA TK Q (SB TK Q (λq4 hq4=>?_)))));cases q4
  ·replace hm:=dT hq4 hm;refine SA TK Q (SA TK Q (SX Q Q (aP TK Q Q Q) (SA TK Q (SA TK Q (SX Q Q (aP TK Q Q Q) (SA TK Q (SA TK Q (SB TK Q (λq5 hq5=>?_)))))))));cases q5
   ·replace hm:=dT hq5 hm;refine SA TK Q (SA TK Q (SX Q Q (aP TK Q Q Q) (SA TK Q (SA TK Q (SX Q Q (aP TK Q Q Q) (SA TK Q (SA TK Q (TN (WT ?_)))))))));exact⟨_,[0,1],(SJ hm),Q,k0,Q⟩
   replace hm:=dS hq5 hm;iterate 8 (refine SA TK Q ?_)
   refine TN (WT ?_);exact⟨_,[0,1],(SJ hm),Q,k0,Q⟩
  replace hm:=dS hq4 hm;iterate 17 (refine SA TK Q ?_)
  refine TN (WT ?_);exact⟨_,[0,1],(SJ hm),Q,k0,Q⟩
 refine WN [2,3,29] Q Q ?_;refine TC _ Q (λh6=>?_) (λh6=>?_)
 ·replace hm:=JA h6 hm;refine RS (SA TK Q (TN (WN [4] Q Q (TR (WR ?_)))));obtain rfl:=OJ hm;exact EndsS.one _ Q (.d _) (.refl _)
 replace hm:=JB h6 hm;refine TS (WT (WN [2,3] Q Q ?_));refine cM hm (λ_=>([]:Fr)) (λ_=>([]:List (Nat×Blk))) [] [3] Q (λz7 hm hz7=>?_) (λj hm=>?_)
 ·refine RS (SA TK Q (SA TK Q (SX Q Q (aP TK Q Q Q) (SA TK Q (TN (WN [2,3,31,32,33] Q Q (TB (aZ hm (λx9=>([(33,.d (.int .i64 x9))]:Fr)) (λx9=>([]:List (Nat×Blk))) [33] [2,3,31,32] [0,1] Q k0 Q Q Q Q Q (λx9 z10 hm hz10=>WN [2,3,31,32,33] Q Q ?_)))))))));refine RS (SA TK Q (TN (WN [2,3,31,32,33,34] Q Q (TQ ?_))));refine TC _ Q (λh11=>?_) (λh11=>?_)
  ·replace hm:=JT h11 hm;refine TS (WT (WN [2,3,31,32,33] Q Q (TQ (TB (RS (SA TK Q (VE hm λe12 he12 hm=>SX Q Q (bZ TK Q Q Q Q he12) ?_)))))));refine SA TK Q (cW 2 Q Q eX Q (SA TK Q (SA TK Q (TN (WN [2,3,5,6,31,32,33] Q Q (RS (SA TK Q (SA TK Q (SA TK Q (VE hm λe13 he13 hm=>SX Q Q (bZ TK Q Q Q Q he13) ?_))))))))));refine SA TK Q (SA TK Q (SX Q Q (aP TK Q Q Q) (SA TK Q (TN (WN [2,3,6,7,31,32,33] Q Q ?_)))));refine kJ [(8,.d (.bool (((decide (e12.state=(3:Int)))||(decide (e12.state=(4:Int)))))))] [8] [2,3,6,7,31,32,33] Q ?_ ?_
   ·refine TG (SA TK Q (SA TK Q (SA TK Q (SB TK Q (λq14 hq14=>?_)))));cases q14
    ·iterate 5 (refine SA TK Q ?_)
     refine TN (WT ?_);exact⟨[0,1,2],Q,k0,dJ (bK (bL (by simp [hq14])) Q) Q⟩
    iterate 5 (refine SA TK Q ?_)
    refine TN (WT ?_);exact⟨[0,1,2],Q,k0,dJ (bK (bL (by simp [hq14])) Q) Q⟩
   refine WN [2,3,6,7,8,31,32,33] Q Q (TB ?_);refine kJ [(53,.d (.bool (((decide (e12.state < (0:Int)))||(decide ((4:Int) < e12.state))))))] [53] [2,3,6,7,8,31,32,33] Q ?_ ?_
   ·refine TG (SA TK Q (SA TK Q (SA TK Q (SB TK Q (λq15 hq15=>?_)))));cases q15
    ·iterate 5 (refine SA TK Q ?_)
     refine TN (WT ?_);exact⟨[0,1,2],Q,k0,dJ (bK (bL (by simp [hq15])) Q) Q⟩
    iterate 5 (refine SA TK Q ?_)
    refine TN (WT ?_);exact⟨[0,1,2],Q,k0,dJ (bK (bL (by simp [hq15])) Q) Q⟩
   refine WN [2,3,6,7,8,31,32,33,53] Q Q ?_;refine TC _ Q (λh16=>?_) (λh16=>?_)
   ·replace hm:=JA h16 hm;refine RS (SA TK Q (TN (WN [4] Q Q (TR (WB (WB (WR (IE hm λv17 hm hz=>?_))))))));rw [hz10 _ hz] at hm;refine WR (WB (IE hm λv18 hm hz=>?_));rw [hz7 _ hz] at hm;refine WR ?_;obtain rfl:=OJ hm;exact EndsS.one _ Q (.d _) (.refl _)
   replace hm:=JB h16 hm;refine kJ [(62,.d (.bool (((!(((decide (e12.state=(3:Int)))||(decide (e12.state=(4:Int))))))&&((!(decide (e12.rel=(0:Int))))||(!(decide (e12.timer=(0:Int)))))))))] [62] [2,3,6,7,31,32,33] Q ?_ ?_
   ·refine TG (SA TK Q (SA TK Q (SB TK Q (λq19 hq19=>?_))));cases q19
    ·iterate 10 (refine SA TK Q ?_)
     refine TN (WT ?_);exact⟨[0,1,2],Q,k0,dJ (bK (bL (by simp [hq19])) Q) Q⟩
    refine SA TK Q (SA TK Q (SA TK Q (SB TK Q (λq20 hq20=>?_))));cases q20
    ·iterate 6 (refine SA TK Q ?_)
     refine TN (WT ?_);exact⟨[0,1,2],Q,k0,dJ (bK (bL (by simp [hq19,hq20])) Q) Q⟩
    iterate 6 (refine SA TK Q ?_)
    refine TN (WT ?_);exact⟨[0,1,2],Q,k0,dJ (bK (bL (by simp [hq19,hq20])) Q) Q⟩
   refine WN [2,3,6,7,31,32,33,62] Q Q ?_;refine TC _ Q (λh21=>?_) (λh21=>?_)
   ·replace hm:=JA h21 hm;refine RS (SA TK Q (TN (WN [4] Q Q (TR (WB (WB (WR (IE hm λv22 hm hz=>?_))))))));rw [hz10 _ hz] at hm;refine WR (WB (IE hm λv23 hm hz=>?_));rw [hz7 _ hz] at hm;refine WR ?_;obtain rfl:=OJ hm;exact EndsS.one _ Q (.d _) (.refl _)
   replace hm:=JB h21 hm;refine kJ [(75,.d (.bool (((decide (e12.rel < (0:Int)))||((decide ((e13.sections.length:Int)≤e12.rel))||(decide (e12.timer < (0:Int))))))))] [75] [2,3,6,7,31,32,33] Q ?_ ?_
   ·refine TG (SA TK Q (SA TK Q (SA TK Q (SB TK Q (λq24 hq24=>?_)))));cases q24
    ·iterate 5 (refine SA TK Q ?_)
     refine SB TK Q (λq25 hq25=>?_);cases q25
     ·iterate 5 (refine SA TK Q ?_)
      refine TN (WT ?_);exact⟨[0,1,2],Q,k0,dJ (bK (bL (by simp [hq24,hq25])) Q) Q⟩
     iterate 5 (refine SA TK Q ?_)
     refine TN (WT ?_);exact⟨[0,1,2],Q,k0,dJ (bK (bL (by simp [hq24,hq25])) Q) Q⟩
    iterate 11 (refine SA TK Q ?_)
    refine TN (WT ?_);exact⟨[0,1,2],Q,k0,dJ (bK (bL (by simp [hq24])) Q) Q⟩
   refine WN [2,3,6,7,31,32,33,75] Q Q ?_;refine TC _ Q (λh26=>?_) (λh26=>?_)
   ·replace hm:=JA h26 hm;refine RS (SA TK Q (TN (WN [4] Q Q (TR (WB (WB (WR (IE hm λv27 hm hz=>?_))))))));rw [hz10 _ hz] at hm;refine WR (WB (IE hm λv28 hm hz=>?_));rw [hz7 _ hz] at hm;refine WR ?_;obtain rfl:=OJ hm;exact EndsS.one _ Q (.d _) (.refl _)
   replace hm:=JB h26 hm;refine aL hm (λx29=>([(90,.d (.bool (x29)))]:Fr)) (λx29=>([]:List (Nat×Blk))) [90] [2,3,6,31,32,33] Q (λz30 hm=>?_) (λx29 hm=>?_)
   ·refine TG (SA TK Q (SA TK Q (SA TK Q (SB TK Q (λq31 hq31=>?_)))));cases q31
    ·replace hm:=JF hq31 hm;iterate 17 (refine SA TK Q ?_)
     refine TN (WT ?_);exact⟨_,[0,1,2],(SJ hm),Q,k0,Q⟩
    replace hm:=JT hq31 hm;iterate 4 (refine SA TK Q ?_)
    refine SB TK Q (λq32 hq32=>?_);cases q32
    ·replace hm:=JF hq32 hm;iterate 12 (refine SA TK Q ?_)
     refine TN (WT ?_);exact⟨_,[0,1,2],(SJ hm),Q,k0,Q⟩
    replace hm:=JT hq32 hm;refine SA TK Q (SA TK Q (SA TK Q (GE hm λg33 hm=>SX Q Q (aY Q Q Q Q g33) (SA TK Q (SB TK Q (λq34 hq34=>?_))))));cases q34
    ·replace hm:=dT hq34 hm;iterate 6 (refine SA TK Q ?_)
     refine TN (WT ?_);exact⟨_,[0,1,2],(SJ hm),Q,k0,Q⟩
    replace hm:=dS hq34 hm;iterate 6 (refine SA TK Q ?_)
    refine TN (WT ?_);exact⟨_,[0,1,2],(SJ hm),Q,k0,Q⟩
   refine WN [2,3,6,31,32,33,90] Q Q ?_;refine TC _ Q (λh35=>?_) (λh35=>?_)
   ·replace hm:=JA h35 hm;refine RS (SA TK Q (TN (WN [4] Q Q (TR (WB (WB (WR (IE hm λv36 hm hz=>?_))))))));rw [hz10 _ hz] at hm;refine WR (WB (IE hm λv37 hm hz=>?_));rw [hz7 _ hz] at hm;refine WR ?_;obtain rfl:=OJ hm;exact EndsS.one _ Q (.d _) (.refl _)
   replace hm:=JB h35 hm;refine kJ [(111,.d (.bool (((decide (e12.state=(4:Int)))&&(decide ((12:Int)≤e12.timer))))))] [111] [2,3,31,32,33] Q ?_ ?_
   ·refine TG (SA TK Q (SA TK Q (SA TK Q (SB TK Q (λq38 hq38=>?_)))));cases q38
    ·iterate 5 (refine SA TK Q ?_)
     refine TN (WT ?_);exact⟨[0,1,2],Q,k0,dJ (bK (bL (by simp [hq38])) Q) Q⟩
    iterate 5 (refine SA TK Q ?_)
    refine TN (WT ?_);exact⟨[0,1,2],Q,k0,dJ (bK (bL (by simp [hq38])) Q) Q⟩
   refine WN [2,3,31,32,33,111] Q Q ?_;refine TC _ Q (λh39=>?_) (λh39=>?_)
   ·replace hm:=JA h39 hm;refine RS (SA TK Q (TN (WN [4] Q Q (TR (WB (WB (WR (IE hm λv40 hm hz=>?_))))))));rw [hz10 _ hz] at hm;refine WR (WB (IE hm λv41 hm hz=>?_));rw [hz7 _ hz] at hm;refine WR ?_;obtain rfl:=OJ hm;exact EndsS.one _ Q (.d _) (.refl _)
   replace hm:=JB h39 hm;refine TS (WK (WK (WT (WN [2,3,31,32,33] Q Q (TG (GE hm λg42 hm=>SX Q Q (aY Q Q Q Q g42) (SA TK Q ?_)))))));refine TN (WT ?_);exact⟨_,[0,1],(SJ hm),Q,k0,Q⟩
  replace hm:=JF h11 hm;refine aI (WX (IE hm λv43 hm hz=>?_));rw [hz10 _ hz] at hm;refine WX (WH (WT ?_));exact⟨_,[0,1],(SJ hm),Q,k0,Q⟩
 refine WN [3] Q Q (RS (SA TK Q (SA TK Q (BE hm λr44 hr44 hm=>SX Q Q (RN Q Q (SC (.d _) (SC (.d _) SN)) (tH (λ_ r h=>⟨166,_,Q,(qAG h).retD⟩) hr44)) (SA TK Q (SA TK Q (TN (WN [4] Q Q (TR ?_)))))))));obtain rfl:=OJ hm;exact EndsS.one _ Q (.d _) (.refl _)
theorem qOG {p0:Table} {p1:Inter} {p2:Int} {r:(List Int)} (hm:sM p0 p1 p2=some r):RetD Tryz.prog 167 [p0.enc,p1.enc,.int .i64 p2] (.sl 1 (r.map (D.int .i64))):=by
 refine .of (mv:=λ_=>false) (aJ zFW Tryz.func167 Q Tryz.ntmps167 Q Q (λwX gX=>?_));unfold sM at hm;refine WN [0,1,2] Q Q (RS (cZ 0 Q Q Q (cZ 1 Q Q Q (SA TK Q (TN (WN [2,3,4] Q Q (TQ ?_)))))));refine aL hm (λx1=>([(21,.d (.bool (x1)))]:Fr)) (λx1=>([]:List (Nat×Blk))) [21] [2,3,4] Q (λz2 hm=>?_) (λx1 hm=>?_)
 ·refine TG (SA TK Q (SA TK Q (SB TK Q (λq3 hq3=>?_))));cases q3
  ·replace hm:=JF hq3 hm;refine SA TK Q (SA TK Q (SA TK Q (SX Q Q (aP TK Q Q Q) (SA TK Q (SA TK Q (SB TK Q (λq4 hq4=>?_)))))));cases q4
   ·replace hm:=JF hq4 hm;refine SA TK Q (SA TK Q (BE hm λr5 hr5 hm=>SX Q Q (RN Q Q (SC (.d _) (SC (.d _) SN)) (qBR hr5)) (SA TK Q (SA TK Q (TN (WT ?_))))));exact⟨_,[0,1],(SJ hm),Q,k0,Q⟩
   replace hm:=JT hq4 hm;iterate 5 (refine SA TK Q ?_)
   refine TN (WT ?_);exact⟨_,[0,1],(SJ hm),Q,k0,Q⟩
  replace hm:=JT hq3 hm;iterate 12 (refine SA TK Q ?_)
  refine TN (WT ?_);exact⟨_,[0,1],(SJ hm),Q,k0,Q⟩
 refine WN [2,3,4,21] Q Q ?_;refine TC _ Q (λh6=>?_) (λh6=>?_)
 ·replace hm:=JA h6 hm;refine RS (SA TK Q (TN (qTG 6 [some 1] Q (WN [6] Q Q (TR (WR ?_))))));obtain rfl:=OJ hm;exact EndsS.one _ Q (.d _) (.refl _)
 replace hm:=JB h6 hm;refine TS (WT (WN [2,3,4] Q Q (bO follows  ?_)));iterate 3 (refine DA [0,1] TK Q ?_)
 refine VE hm λe7 he7 hm=>DX [0,1] Q Q (bZ TK Q Q Q Q he7) ?_;iterate 4 (refine DA [0,1] TK Q ?_)
 refine VE hm λe8 he8 hm=>DX [0,1] Q Q (bZ TK Q Q Q Q he8) (DA [0,1] TK Q (BE hm λr9 hr9 hm=>DX [0,1] Q Q (RD Q Q Q (qBQ hr9)) ?_));refine DT ?_ (by kernel_rfl);refine SA TK Q (TN (WN [6] Q Q (TR ?_)));obtain rfl:=OJ hm;exact EndsS.one _ Q (.d _) (.refl _)
theorem fG {p0:Inputs} {p1:Int} {r:Bool} (hm:eA p0 p1=some r):RetN Tryz.prog 168 [p0.enc,.int .i64 p1] (.bool (r)):=by
 refine .unit (aJ zFV Tryz.func168 Q Tryz.ntmps168 Q Q (λwX gX=>?_)) Q;unfold eA at hm;refine WN [0,1] Q Q (RS (cZ 0 Q Q Q (SA TK Q (TN (WN [1,2] Q Q ?_)))));refine aL hm (λx1=>([(4,.d (.bool (x1)))]:Fr)) (λx1=>([]:List (Nat×Blk))) [4] [] Q (λz2 hm=>?_) (λx1 hm=>?_)
 ·refine TG (SA TK Q (SA TK Q (SB TK Q (λq3 hq3=>?_))));cases q3
  ·replace hm:=JF hq3 hm;refine SA TK Q (SA TK Q (SA TK Q (SX Q Q (aP TK Q Q Q) (SA TK Q (SA TK Q (SB TK Q (λq4 hq4=>?_)))))));cases q4
   ·replace hm:=JF hq4 hm;refine SA TK Q (SA TK Q (SA TK Q (VE hm λe5 he5 hm=>SX Q Q (bZ TK Q Q Q Q he5) (SA TK Q (SA TK Q (SA TK Q (TN (WT ?_))))))));exact⟨_,[0],(SJ hm),Q,k0,Q⟩
   replace hm:=JT hq4 hm;iterate 7 (refine SA TK Q ?_)
   refine TN (WT ?_);exact⟨_,[0],(SJ hm),Q,k0,Q⟩
  replace hm:=JT hq3 hm;iterate 14 (refine SA TK Q ?_)
  refine TN (WT ?_);exact⟨_,[0],(SJ hm),Q,k0,Q⟩
 refine WN [4] Q Q (TR ?_);obtain rfl:=OJ hm;exact EndsS.one _ Q (.d _) (.refl _)
theorem kX {p0:Table} {p1:Inter} {p2:Inputs} {p3:Int} {r:Bool} (hm:eY p0 p1 p2 p3=some r):RetN Tryz.prog 135 [p0.enc,p1.enc,p2.enc,.int .i64 p3] (.bool (r)):=by
 refine .unit (aJ zGV Tryz.func135 Q Tryz.ntmps135 Q Q (λwX gX=>?_)) Q;unfold eY at hm;refine WN [0,1,2,3] Q Q (RS (cZ 0 Q Q Q (cZ 1 Q Q Q (cZ 2 Q Q Q (SA TK Q (TN (WN [3,4,5,6] Q Q ?_)))))));refine cM hm (λ_=>([]:Fr)) (λ_=>([]:List (Nat×Blk))) [] [] Q (λz1 hm hz1=>?_) (λj hm=>?_)
 ·refine RS (SA TK Q (SA TK Q (SA TK Q (BE hm λr2 hr2 hm=>SX Q Q (RD Q Q Q (qOG hr2)) (SX Q Q (aP TK Q Q Q) (SA TK Q (TN (WN [6,14,15,16] Q Q (TB ?_)))))))));refine aZ hm (λx4=>([(16,.d (.int .i64 x4))]:Fr)) (λx4=>([]:List (Nat×Blk))) [16] [6,14,15] [0,1,2] Q k0 Q Q Q Q Q (λx4 z5 hm hz5=>WN [6,14,15,16] Q Q (RS (SA TK Q (TN (WN [6,14,15,16,17] Q Q (TQ ?_))))));refine TC _ Q (λh6=>?_) (λh6=>?_)
  ·replace hm:=JT h6 hm;refine TS (WT (WN [6,14,15,16] Q Q (TQ (TB (RS (VE hm λe7 he7 hm=>SX Q Q (bZ TK Q Q Q Q he7) (SA TK Q (SA TK Q ?_))))))));refine TN (WN [6,10,14,15,16] Q Q (RS (SA TK Q (SA TK Q (BE hm λr8 hr8 hm=>SX Q Q (RN Q Q (SC (.d _) (SC (.d _) SN)) (fG hr8)) (TN (WN [6,14,15,16,22] Q Q ?_)))))));refine TC _ Q (λh9=>?_) (λh9=>?_)
   ·replace hm:=JA h9 hm;refine RS (SA TK Q (TN (WN [8] Q Q (TR (WB (WR (IE hm λv10 hm hz=>?_)))))));rw [hz5 _ hz] at hm;refine WR (WB (IE hm λv11 hm hz=>?_));rw [hz1 _ hz] at hm;refine WR ?_;obtain rfl:=OJ hm;exact EndsS.one _ Q (.d _) (.refl _)
   replace hm:=JB h9 hm;refine TS (WK (WT (WN [6,14,15,16] Q Q (TG (GE hm λg12 hm=>SX Q Q (aY Q Q Q Q g12) (SA TK Q (TN ?_)))))));refine WT ?_;exact⟨_,[0,1,2],(SJ hm),Q,k0,Q⟩
  replace hm:=JF h6 hm;refine aI (WX (IE hm λv13 hm hz=>?_));rw [hz5 _ hz] at hm;refine WX (WH (WT ?_));exact⟨_,[0,1,2],(SJ hm),Q,k0,Q⟩
 refine WN [] Q Q (RS (SA TK Q (TN (WN [8] Q Q (TR ?_)))));obtain rfl:=OJ hm;exact EndsS.one _ Q (.d _) (.refl _)
theorem tP {p0:Table} {p1:Inputs} {p2:Route} {r:Bool} (hm:jR p0 p1 p2=some r):RetN Tryz.prog 136 [p0.enc,p1.enc,p2.enc] (.bool (r)):=by
 refine .unit (aJ zGU Tryz.func136 Q Tryz.ntmps136 Q Q (λwX gX=>?_)) Q;unfold jR at hm;refine WN [0,1,2] Q Q (RS (cZ 0 Q Q Q (cZ 1 Q Q Q (cZ 2 Q Q Q (SA TK Q (TN (WN [3,4,5] Q Q ?_)))))));refine cM hm (λ_=>([]:Fr)) (λ_=>([]:List (Nat×Blk))) [] [3,4,5] Q (λz1 hm hz1=>?_) (λj hm=>?_)
 ·refine RS ?_;iterate 4 (refine SA TK Q ?_)
  refine SX Q Q (fX [.tmp 13,.tmp 15] TK Q Q qGW Q Q Q Q Q) (BE hm λr2 hr2 hm=>SX Q Q (RN Q Q (SC (.d _) SN) (kM hr2)) (SX Q Q (aP TK Q Q Q) (SA TK Q (TN (WN [3,4,5,17,18,19] Q Q (TB (aZ hm (λx4=>([(19,.d (.int .i64 x4))]:Fr)) (λx4=>([]:List (Nat×Blk))) [19] [3,4,5,17,18] [0,1,2] Q k0 Q Q Q Q Q (λx4 z5 hm hz5=>?_))))))));refine WN [3,4,5,17,18,19] Q Q (RS (SA TK Q (TN (WN [3,4,5,17,18,19,20] Q Q (TQ ?_)))));refine TC _ Q (λh6=>?_) (λh6=>?_)
  ·replace hm:=JT h6 hm;refine TS (WT (WN [3,4,5,17,18,19] Q Q (TQ (TB (RS (VE hm λe7 he7 hm=>SX Q Q (bZ TK Q Q Q Q he7) (SA TK Q (SA TK Q ?_))))))));refine TN (WN [3,4,5,8,17,18,19] Q Q (RS (SA TK Q (SA TK Q (BE hm λr8 hr8 hm=>SX Q Q (RN Q Q (SC (.d _) (SC (.d _) SN)) (fG hr8)) (TN (WN [3,4,5,17,18,19,25] Q Q ?_)))))));refine TC _ Q (λh9=>?_) (λh9=>?_)
   ·replace hm:=JA h9 hm;refine RS (SA TK Q (TN (WN [6] Q Q (TR (WB (WR (IE hm λv10 hm hz=>?_)))))));rw [hz5 _ hz] at hm;refine WR (WB (IE hm λv11 hm hz=>?_));rw [hz1 _ hz] at hm;refine WR ?_;obtain rfl:=OJ hm;exact EndsS.one _ Q (.d _) (.refl _)
   replace hm:=JB h9 hm;refine TS (WK (WT (WN [3,4,5,17,18,19] Q Q (TG (GE hm λg12 hm=>SX Q Q (aY Q Q Q Q g12) (SA TK Q (TN ?_)))))));refine WT ?_;exact⟨_,[0,1,2],(SJ hm),Q,k0,Q⟩
  replace hm:=JF h6 hm;refine aI (WX (IE hm λv13 hm hz=>?_));rw [hz5 _ hz] at hm;refine WX (WH (WT ?_));exact⟨_,[0,1,2],(SJ hm),Q,k0,Q⟩
 refine WN [3,4,5] Q Q ?_;refine cM hm (λ_=>([]:Fr)) (λ_=>([]:List (Nat×Blk))) [] [] Q (λz14 hm hz14=>?_) (λj hm=>?_)
 ·refine RS (SA TK Q (BE hm λr15 hr15 hm=>SX Q Q (RD Q Q Q (fP hr15)) (SX Q Q (aP TK Q Q Q) (SA TK Q (TN (WN [3,4,28,29,30] Q Q (TB ?_)))))));refine aZ hm (λx17=>([(30,.d (.int .i64 x17))]:Fr)) (λx17=>([]:List (Nat×Blk))) [30] [3,4,28,29] [0,1,2] Q k0 Q Q Q Q Q (λx17 z18 hm hz18=>WN [3,4,28,29,30] Q Q (RS (SA TK Q (TN (WN [3,4,28,29,30,31] Q Q (TQ ?_))))));refine TC _ Q (λh19=>?_) (λh19=>?_)
  ·replace hm:=JT h19 hm;refine TS (WT (WN [3,4,28,29,30] Q Q (TQ (TB (RS (VE hm λe20 he20 hm=>SX Q Q (bZ TK Q Q Q Q he20) (SA TK Q ?_)))))));refine cW 3 Q Q gQ Q (SA TK Q (TN (WN [3,4,10,28,29,30] Q Q (RS (SA TK Q (SA TK Q (SA TK Q (BE hm λr21 hr21 hm=>SX Q Q (RN Q Q (SC (.d _) (SC (.d _) SN)) (fW hr21)) (SA TK Q ?_)))))))));refine TN (WN [3,4,10,11,28,29,30] Q Q ?_);refine aL hm (λx22=>([(52,.d (.bool (x22)))]:Fr)) (λx22=>([]:List (Nat×Blk))) [52] [3,4,28,29,30] Q (λz23 hm=>?_) (λx22 hm=>?_)
   ·refine cU follows  ?_;iterate 3 (refine DA [0,1,2,3] TK Q ?_)
    refine DX [0,1,2,3] Q Q (aP TK Q Q Q) (DA [0,1,2,3] TK Q (d_b [0,1,2,3] TK Q (λq24 hq24=>?_)));cases q24
    ·replace hm:=JF hq24 hm;iterate 3 (refine DA [0,1,2,3] TK Q ?_)
     refine VE hm λe25 he25 hm=>DX [0,1,2,3] Q Q (bZ TK Q Q Q Q he25) ?_;iterate 5 (refine DA [0,1,2,3] TK Q ?_)
     refine DT ?_ (by kernel_rfl);refine TN (WT ?_);exact⟨_,[0,1,2,3],(SJ hm),Q,k0,Q⟩
    replace hm:=JT hq24 hm;iterate 9 (refine DA [0,1,2,3] TK Q ?_)
    refine DT ?_ (by kernel_rfl);refine TN (WT ?_);exact⟨_,[0,1,2,3],(SJ hm),Q,k0,Q⟩
   refine WN [3,4,28,29,30,52] Q Q ?_;refine TC _ Q (λh26=>?_) (λh26=>?_)
   ·replace hm:=JA h26 hm;refine RS (SA TK Q (TN (WN [6] Q Q (TR (WB (WR (IE hm λv27 hm hz=>?_)))))));rw [hz18 _ hz] at hm;refine WR (WB (IE hm λv28 hm hz=>?_));rw [hz14 _ hz] at hm;refine WR ?_;obtain rfl:=OJ hm;exact EndsS.one _ Q (.d _) (.refl _)
   replace hm:=JB h26 hm;refine TS (WK (WT (WN [3,4,28,29,30] Q Q (TG (GE hm λg29 hm=>SX Q Q (aY Q Q Q Q g29) (SA TK Q (TN ?_)))))));refine WT ?_;exact⟨_,[0,1,2],(SJ hm),Q,k0,Q⟩
  replace hm:=JF h19 hm;refine aI (WX (IE hm λv30 hm hz=>?_));rw [hz18 _ hz] at hm;refine WX (WH (WT ?_));exact⟨_,[0,1,2],(SJ hm),Q,k0,Q⟩
 refine WN [] Q Q (RS (SA TK Q (TN (WN [6] Q Q (TR ?_)))));obtain rfl:=OJ hm;exact EndsS.one _ Q (.d _) (.refl _)
theorem wM {p0:View} {r:RouteState} (hm:iG p0=some r):RetN Tryz.prog 137 [p0.enc] (r.enc):=by
 refine .unit (aJ zGT Tryz.func137 Q Tryz.ntmps137 Q Q (λwX gX=>?_)) Q;unfold iG at hm;refine WN [0] Q Q (RS (cZ 0 Q Q Q (cW 1 Q Q eX Q (TN (WN [1,2] Q Q (TQ (TB (bO follows  ?_))))))));iterate 5 (refine DA [0,1] TK Q ?_)
 refine VE hm λe1 he1 hm=>DX [0,1] Q Q (bZ TK Q Q Q Q he1) (DA [0,1] TK Q (BE hm λr2 hr2 hm=>DX [0,1] Q Q (RN Q Q (SC (.d _) (SC (.d _) SN)) (fG hr2)) ?_));refine DT ?_ (by kernel_rfl);refine SA TK Q (TN (WN [1,2,3] Q Q ?_));refine TC _ Q (λh3=>?_) (λh3=>?_)
 ·replace hm:=JA h3 hm;refine RS (SX Q Q (cI Q pG eX Q Q Q Q) (SA TK Q (TN (WN [2] Q Q (TR (WB (WR ?_)))))));obtain rfl:=OJ hm;exact EndsS.cellR _ TK Q Q Q Q Q (.d _)
 replace hm:=JB h3 hm;refine aL hm (λx4=>([(13,.d (.bool (x4)))]:Fr)) (λx4=>([]:List (Nat×Blk))) [13] [1,2] Q (λz5 hm=>?_) (λx4 hm=>?_)
 ·refine TG (SA TK Q (SA TK Q (SB TK Q (λq6 hq6=>?_))));cases q6
  ·replace hm:=JB hq6 hm;iterate 14 (refine SA TK Q ?_)
   refine TN (WT ?_);exact⟨_,[0,1],(SJ hm),Q,k0,Q⟩
  replace hm:=JA hq6 hm;iterate 4 (refine SA TK Q ?_)
  refine SB TK Q (λq7 hq7=>?_);cases q7
  ·replace hm:=JB hq7 hm;iterate 9 (refine SA TK Q ?_)
   refine TN (WT ?_);exact⟨_,[0,1],(SJ hm),Q,k0,Q⟩
  replace hm:=JA hq7 hm;iterate 5 (refine SA TK Q ?_)
  refine BE hm λr8 hr8 hm=>SX Q Q (RN Q Q (SC (.d _) (SC (.d _) SN)) (fG hr8)) (SA TK Q (SA TK Q (SA TK Q (TN (WT ?_)))));exact⟨_,[0,1],(SJ hm),Q,k0,Q⟩
 refine WN [1,2,13] Q Q ?_;refine TC _ Q (λh9=>?_) (λh9=>?_)
 ·replace hm:=JA h9 hm;refine RS (SX Q Q (cI Q pG eX Q Q Q Q) (SA TK Q (TN (WN [2] Q Q (TR (WB (WR ?_)))))));obtain rfl:=OJ hm;exact EndsS.cellR _ TK Q Q Q Q Q (.d _)
 replace hm:=JB h9 hm;refine aL hm (λx10=>([(31,.d (.bool (x10)))]:Fr)) (λx10=>([]:List (Nat×Blk))) [31] [2] Q (λz11 hm=>?_) (λx10 hm=>?_)
 ·refine TG (SA TK Q (SA TK Q (SB TK Q (λq12 hq12=>?_))));cases q12
  ·replace hm:=JB hq12 hm;iterate 6 (refine SA TK Q ?_)
   refine BE hm λr13 hr13 hm=>SX Q Q (RN Q Q (SC (.d _) (SC (.d _) (SC (.d _) SN))) (tP hr13)) (SA TK Q (SA TK Q (SA TK Q (TN (WT ?_)))));exact⟨_,[0,1],(SJ hm),Q,k0,Q⟩
  replace hm:=JA hq12 hm;iterate 10 (refine SA TK Q ?_)
  refine TN (WT ?_);exact⟨_,[0,1],(SJ hm),Q,k0,Q⟩
 refine WN [2,31] Q Q ?_;refine TC _ Q (λh14=>?_) (λh14=>?_)
 ·replace hm:=JA h14 hm;refine RS (SX Q Q (cI Q pG eX Q Q Q Q) (SA TK Q (TN (WN [2] Q Q (TR (WB (WR ?_)))))));obtain rfl:=OJ hm;exact EndsS.cellR _ TK Q Q Q Q Q (.d _)
 replace hm:=JB h14 hm;refine TS (WK (WT (WN [2] Q Q (RS (SX Q Q (cI Q pG eX Q Q Q Q) (SA TK Q (TN (WN [2] Q Q ?_))))))));refine TR ?_;obtain rfl:=OJ hm;exact EndsS.cellR _ TK Q Q Q Q Q (.d _)
theorem xG {p0:View} {r:RouteState} (hm:jC p0=some r):RetN Tryz.prog 138 [p0.enc] (r.enc):=by
 refine .unit (aJ zGS Tryz.func138 Q Tryz.ntmps138 Q Q (λwX gX=>?_)) Q;unfold jC at hm;refine WN [0] Q Q (RS (cZ 0 Q Q Q (cW 1 Q Q eX Q (TN (WN [1,2] Q Q (bO follows  ?_))))));iterate 6 (refine DA [0,1] TK Q ?_)
 refine DX [0,1] Q Q (aP TK Q Q Q) (GE hm λg1 hm=>DX [0,1] Q Q (aY Q Q Q Q g1) (DA [0,1] TK Q ?_));refine DT ?_ (by kernel_rfl);refine SA TK Q (TN (WN [1,2,3,4] Q Q (RS (SA TK Q (SX Q Q (cI Q pG eX Q Q Q Q) (cW 2 Q Q eX Q (SA TK Q (TN ?_))))))));refine WN [1,2,3,4,5] Q Q (TQ (RS (SA TK Q (SA TK Q (TN (WN [1,2,3,4,5,17] Q Q ?_))))));refine TC _ Q (λh2=>?_) (λh2=>?_)
 ·replace hm:=JA h2 hm;refine RS (SA TK Q (SA TK Q (TN (WN [2] Q Q (TR (WR ?_))))));obtain rfl:=OJ hm;exact EndsS.cellR _ TK Q Q Q Q Q (.d _)
 replace hm:=JB h2 hm;refine TS (WT (WN [1,2,3,4,5] Q Q (TQ ?_)));refine kJ [(24,.d (.bool (((p0.cancelled)&&(p0.emptied)))))] [24] [1,2,3,4,5] Q ?_ ?_
 ·refine TG (SA TK Q (SA TK Q (SB TK Q (λq3 hq3=>?_))));cases q3
  ·refine SA TK Q (SA TK Q (SA TK Q (TN (WT ?_))));exact⟨[0,1,2],Q,k0,dJ (bK (bL (by simp [hq3])) Q) Q⟩
  refine SA TK Q (SA TK Q (SA TK Q (TN (WT ?_))));exact⟨[0,1,2],Q,k0,dJ (bK (bL (by simp [hq3])) Q) Q⟩
 refine WN [1,2,3,4,5,24] Q Q ?_;refine TC _ Q (λh4=>?_) (λh4=>?_)
 ·replace hm:=JA h4 hm;refine RS (SA TK Q (SX Q Q (cI Q pG eX Q Q Q Q) (SA TK Q (TN (WN [2] Q Q (TR (WR ?_)))))));obtain rfl:=OJ hm;exact EndsS.cellR _ TK Q Q Q Q Q (.d _)
 replace hm:=JB h4 hm;refine TS (WT (WN [1,2,3,4,5] Q Q (TQ (bO follows  ?_))));iterate 6 (refine DA [0,1,2] TK Q ?_)
 refine VE hm λe5 he5 hm=>DX [0,1,2] Q Q (bZ TK Q Q Q Q he5) (DA [0,1,2] TK Q (BE hm λr6 hr6 hm=>DX [0,1,2] Q Q (RN Q Q (SC (.d _) (SC (.d _) SN)) (fG hr6)) (DA [0,1,2] TK Q ?_)));refine DT ?_ (by kernel_rfl);refine TN (WN [1,2,3,4,5,36] Q Q ?_);refine TC _ Q (λh7=>?_) (λh7=>?_)
 ·replace hm:=JA h7 hm;refine TQ (RS (SA TK Q (SA TK Q (SA TK Q (TN (WN [1,2,3,5,39] Q Q ?_))))));refine TC _ Q (λh8=>?_) (λh8=>?_)
  ·replace hm:=JT h8 hm;refine RS (SX Q Q (cI Q pG eX Q Q Q Q) (SA TK Q (TN (WN [2] Q Q (TR (WR (WR ?_)))))));obtain rfl:=OJ hm;exact EndsS.cellR _ TK Q Q Q Q Q (.d _)
  replace hm:=JF h8 hm;refine TS (WT (WN [1,2,3,5] Q Q (TQ ?_)));refine aL hm (λx9=>([(54,.d (.bool (x9)))]:Fr)) (λx9=>([]:List (Nat×Blk))) [54] [2,3,5] Q (λz10 hm=>?_) (λx9 hm=>?_)
  ·refine cU follows  ?_;iterate 2 (refine DA [0,1,2] TK Q ?_)
   refine d_b [0,1,2] TK Q (λq11 hq11=>?_);cases q11
   ·replace hm:=JB hq11 hm;iterate 6 (refine DA [0,1,2] TK Q ?_)
    refine GE hm λg12 hm=>DX [0,1,2] Q Q (aY Q Q Q Q g12) (VE hm λe13 he13 hm=>DX [0,1,2] Q Q (bZ TK Q Q Q Q he13) (DA [0,1,2] TK Q (BE hm λr14 hr14 hm=>DX [0,1,2] Q Q (RN Q Q (SC (.d _) (SC (.d _) SN)) (fG hr14)) (DA [0,1,2] TK Q ?_))));refine DT ?_ (by kernel_rfl);refine TN (WT ?_);exact⟨_,[0,1,2],(SJ hm),Q,k0,Q⟩
   replace hm:=JA hq11 hm;iterate 11 (refine DA [0,1,2] TK Q ?_)
   refine DT ?_ (by kernel_rfl);refine TN (WT ?_);exact⟨_,[0,1,2],(SJ hm),Q,k0,Q⟩
  refine WN [2,3,5,54] Q Q ?_;refine TC _ Q (λh15=>?_) (λh15=>?_)
  ·replace hm:=JA h15 hm;refine TG (SA TK Q (GE hm λg16 hm=>SX Q Q (aY Q Q Q Q g16) (SA TK Q (SA TK Q (TN (WT (WN [2,5] Q Q (RS ?_))))))));refine SA TK Q (SA TK Q (TN (WN [2] Q Q (TR (WR ?_)))));obtain rfl:=OJ hm;exact EndsS.cellR _ TK Q Q Q Q Q (.d _)
  replace hm:=JB h15 hm;refine TS (WT (WN [2,5] Q Q (RS (SA TK Q (SA TK Q (TN (WN [2] Q Q (TR (WR ?_)))))))));obtain rfl:=OJ hm;exact EndsS.cellR _ TK Q Q Q Q Q (.d _)
 replace hm:=JB h7 hm;refine TS (WT (WN [1,2,3,4,5] Q Q (TQ (RS (SA TK Q (SA TK Q (SA TK Q (TN (WN [1,2,5,61] Q Q ?_)))))))));refine TC _ Q (λh17=>?_) (λh17=>?_)
 ·replace hm:=JT h17 hm;refine RS (SA TK Q (SA TK Q (TN (WN [2] Q Q (TR (WR ?_))))));obtain rfl:=OJ hm;exact EndsS.cellR _ TK Q Q Q Q Q (.d _)
 replace hm:=JF h17 hm;refine TS (WT (WN [1,2,5] Q Q (TQ (RS (SA TK Q (SA TK Q (SA TK Q (GE hm λg18 hm=>SX Q Q (aY Q Q Q Q g18) (SA TK Q (SA TK Q ?_))))))))));refine TN (WN [2,5] Q Q (RS (SA TK Q (SA TK Q (SA TK Q (TN (WN [2,5,70] Q Q ?_)))))));refine TC _ Q (λh19=>?_) (λh19=>?_)
 ·replace hm:=JT h19 hm;refine RS (SX Q Q (cI Q pG eX Q Q Q Q) (SA TK Q (TN (WN [2] Q Q (TR (WR ?_))))));obtain rfl:=OJ hm;exact EndsS.cellR _ TK Q Q Q Q Q (.d _)
 replace hm:=JF h19 hm;refine TS (WT (WN [2,5] Q Q (RS (SA TK Q (SA TK Q (TN (WN [2] Q Q (TR ?_))))))));obtain rfl:=OJ hm;exact EndsS.cellR _ TK Q Q Q Q Q (.d _)
theorem xH {p0:View} {r:RouteState} (hm:jD p0=some r):RetN Tryz.prog 139 [p0.enc] (r.enc):=by
 refine .unit (aJ zGR Tryz.func139 Q Tryz.ntmps139 Q Q (λwX gX=>?_)) Q;unfold jD at hm;refine WN [0] Q Q (RS (cZ 0 Q Q Q (cW 1 Q Q eX Q (TN (WN [1,2] Q Q (RS ?_))))));iterate 4 (refine SA TK Q ?_)
 refine TN (WN [1,2,3] Q Q (TQ (bO follows  ?_)));iterate 6 (refine DA [0,1] TK Q ?_)
 refine VE hm λe1 he1 hm=>DX [0,1] Q Q (bZ TK Q Q Q Q he1) (DA [0,1] TK Q (BE hm λr2 hr2 hm=>DX [0,1] Q Q (RN Q Q (SC (.d _) (SC (.d _) SN)) (fG hr2)) ?_));refine DT ?_ (by kernel_rfl);refine TN (WN [1,2,3,16] Q Q ?_);refine TC _ Q (λh3=>?_) (λh3=>?_)
 ·replace hm:=JA h3 hm;refine RS (SA TK Q (SX Q Q (cI Q pG eX Q Q Q Q) (SA TK Q (TN (WN [2] Q Q (TR (WR ?_)))))));obtain rfl:=OJ hm;exact EndsS.cellR _ TK Q Q Q Q Q (.d _)
 replace hm:=JB h3 hm;refine TS (WT (WN [1,2,3] Q Q (RS (SA TK Q (SX Q Q (cI Q pG eX Q Q Q Q) (cW 2 Q Q eX Q (SA TK Q (TN ?_))))))));refine WN [1,2,4] Q Q (TQ ?_);refine kJ [(27,.d (.bool (((p0.claimed)||(!(p0.emptied))))))] [27] [1,2,4] Q ?_ ?_
 ·refine TG (SA TK Q (SA TK Q (SB TK Q (λq4 hq4=>?_))));cases q4
  ·iterate 4 (refine SA TK Q ?_)
   refine TN (WT ?_);exact⟨[0,1,2],Q,k0,dJ (bK (bL (by simp [hq4])) Q) Q⟩
  iterate 4 (refine SA TK Q ?_)
  refine TN (WT ?_);exact⟨[0,1,2],Q,k0,dJ (bK (bL (by simp [hq4])) Q) Q⟩
 refine WN [1,2,4,27] Q Q ?_;refine TC _ Q (λh5=>?_) (λh5=>?_)
 ·replace hm:=JA h5 hm;refine RS (SA TK Q (SA TK Q (TN (WN [2] Q Q (TR (WR ?_))))));obtain rfl:=OJ hm;exact EndsS.cellR _ TK Q Q Q Q Q (.d _)
 replace hm:=JB h5 hm;refine TS (WT (WN [1,2,4] Q Q (TQ (RS (SA TK Q (SA TK Q (SA TK Q (GE hm λg6 hm=>SX Q Q (aY Q Q Q Q g6) (SA TK Q (SA TK Q ?_))))))))));refine TN (WN [2,4] Q Q (RS (SA TK Q (SA TK Q (SA TK Q (TN (WN [2,4,36] Q Q ?_)))))));refine TC _ Q (λh7=>?_) (λh7=>?_)
 ·replace hm:=JT h7 hm;refine RS (SX Q Q (cI Q pG eX Q Q Q Q) (SA TK Q (TN (WN [2] Q Q (TR (WR ?_))))));obtain rfl:=OJ hm;exact EndsS.cellR _ TK Q Q Q Q Q (.d _)
 replace hm:=JF h7 hm;refine TS (WT (WN [2,4] Q Q (RS (SA TK Q (SA TK Q (TN (WN [2] Q Q (TR ?_))))))));obtain rfl:=OJ hm;exact EndsS.cellR _ TK Q Q Q Q Q (.d _)
theorem qFS {p0:Table} {p1:Inter} {p2:Inputs} {p3:Int} {r:RouteState} (hm:nD p0 p1 p2 p3=some r):RetN Tryz.prog 74 [p0.enc,p1.enc,p2.enc,.int .i64 p3] (r.enc):=by
 refine .unit (aJ zLN Tryz.func74 Q Tryz.ntmps74 Q Q (λwX gX=>?_)) Q;unfold nD at hm;refine WN [0,1,2,3] Q Q (RS (cZ 0 Q Q Q (cZ 1 Q Q Q (cZ 2 Q Q Q (cW 3 Q Q eX Q (TN (WN [3,4,5,6,8] Q Q (TQ ?_))))))));refine aL hm (λx1=>([(24,.d (.bool (x1)))]:Fr)) (λx1=>([]:List (Nat×Blk))) [24] [3,4,5,6,8] Q (λz2 hm=>?_) (λx1 hm=>?_)
 ·refine TG (SA TK Q (SA TK Q (SB TK Q (λq3 hq3=>?_))));cases q3
  ·replace hm:=JF hq3 hm;refine SA TK Q (SA TK Q (SA TK Q (SX Q Q (aP TK Q Q Q) (SA TK Q (SA TK Q (SB TK Q (λq4 hq4=>?_)))))));cases q4
   ·replace hm:=JF hq4 hm;refine SA TK Q (SA TK Q (BE hm λr5 hr5 hm=>SX Q Q (RN Q Q (SC (.d _) (SC (.d _) SN)) (qFR hr5)) (SA TK Q (SA TK Q (TN (WT ?_))))));exact⟨_,[0,1,2,3],(SJ hm),Q,k0,Q⟩
   replace hm:=JT hq4 hm;iterate 5 (refine SA TK Q ?_)
   refine TN (WT ?_);exact⟨_,[0,1,2,3],(SJ hm),Q,k0,Q⟩
  replace hm:=JT hq3 hm;iterate 12 (refine SA TK Q ?_)
  refine TN (WT ?_);exact⟨_,[0,1,2,3],(SJ hm),Q,k0,Q⟩
 refine WN [3,4,5,6,8,24] Q Q ?_;refine TC _ Q (λh6=>?_) (λh6=>?_)
 ·replace hm:=JA h6 hm;refine RS (SX Q Q (cI Q pG eX Q Q Q Q) (SA TK Q (TN (WN [8] Q Q (TR (WR ?_))))));obtain rfl:=OJ hm;exact EndsS.cellR _ TK Q Q Q Q Q (.d _)
 replace hm:=JB h6 hm;refine TS (WT (WN [3,4,5,6,8] Q Q (eM ?_)));refine aL hm (λ(c7,c8,c9,c10,c11,c12,c13,c14,c15,c16,c17,c18,c19,c20,c21,c22,c23,c24,c25,c26,c27)=>([(9,.mptr 4 0 0 0)]:Fr)) (λ(c7,c8,c9,c10,c11,c12,c13,c14,c15,c16,c17,c18,c19,c20,c21,c22,c23,c24,c25,c26,c27)=>([(4,.box 157 [.d (.sl 14 (p0.routes.map Route.enc)),.d (.sl 1 (p0.points.map (D.int .i64))),.d (.sl 1 (p0.homes.map (D.int .i64))),.d (.int .i64 p0.sections),.d (.int .i64 p0.signals),.d (.sl 1 (p2.occupied.map D.bool)),.d (.sl 1 (p2.detected.map (D.int .i64))),.d (.sl 1 (p2.closed.map D.bool)),.d (.sl 1 (p2.claimed.map D.bool)),.d (.sl 1 (p2.passed.map D.bool)),.d (.sl 1 (p2.calls.map (D.int .i64))),.d (.sl 1 (p2.cancels.map (D.int .i64))),.d (.str c7),.d (.int .i64 c8),.d (.int .i64 c9),.d (.sl 3 (c10.map Step.enc)),.d (.sl 2 (c11.map Setting.enc)),.d (.sl 1 (c12.map (D.int .i64))),.d (.int .i64 c13),.d (.int .i64 c14),.d (.sl 3 (c15.map Step.enc)),.d (.sl 2 (c16.map Setting.enc)),.d (.sl 1 (c17.map (D.int .i64))),.d (.sl 2 (c18.map Setting.enc)),.d (.sl 1 (c19.map (D.int .i64))),.d (.sl 2 (c20.map End.enc)),.d (.int .i64 c21),.d (.int .i64 c22),.d (.int .i64 c23),.d (.bool (c24)),.d (.bool (c25)),.d (.bool (c26)),.d (.bool (c27))])]:List (Nat×Blk))) [9] [4,6,8] Q (λz28 hm=>?_) (λj hm=>?_)
 ·refine eM (cU follows  (DA [0] TK Q (DA [2] TK Q (DA [] TK Q (DA [0] TK Q (DA [] TK Q (VE hm λe29 he29 hm=>DX [] Q Q (bZ TK Q Q Q Q he29) ?_)))))));iterate 2 (refine DA [] TK Q ?_)
  refine DA [1] TK Q (DA [] TK Q (VE hm λe30 he30 hm=>DX [] Q Q (bZ TK Q Q Q Q he30) ?_));iterate 3 (refine DA [] TK Q ?_)
  refine DA [2] TK Q (DX [] Q Q (aP TK Q Q Q) (DA [] TK Q (d_b [] TK Q (λq31 hq31=>?_))));cases q31
  ·replace hm:=JF hq31 hm;refine DA [] TK Q (DA [2] TK Q (DA [] TK Q (VE hm λe32 he32 hm=>DX [] Q Q (bZ TK Q Q Q Q he32) ?_)));iterate 4 (refine DA [] TK Q ?_)
   refine DA [2] TK Q (DX [] Q Q (aP TK Q Q Q) (DA [] TK Q (d_b [] TK Q (λq33 hq33=>?_))));cases q33
   ·replace hm:=JF hq33 hm;iterate 7 (refine DA [] TK Q ?_)
    refine DA [2] TK Q (DA [] TK Q (BE hm λr34 hr34 hm=>DX [] Q Q (RN Q Q (SC (.d _) (SC (.d _) SN)) (cY hr34)) (DA [0] TK Q (DA [1] TK Q (DA [2] TK Q (DA [] TK Q (BE hm λr35 hr35 hm=>?_)))))));refine DX [] Q Q (RN Q Q (SC (.d _) (SC (.d _) (SC (.d _) (SC (.d _) SN)))) (kX hr35)) (DX [] Q Q (cI Q qNQ tM Q Q Q Q) (rO [5] _ (.mptr 5 0 0 0) Q (iS Q) Q (kV Q Q tM Q Q) ?_));refine DT ?_ (by kernel_rfl);refine SA TK Q (TN (WT ?_));exact⟨_,[0,1,2,3,5],(SJ hm),Q,k0,Q⟩
   replace hm:=JT hq33 hm;refine DA [] TK Q (DA [2] TK Q (DA [] TK Q (VE hm λe36 he36 hm=>DX [] Q Q (bZ TK Q Q Q Q he36) ?_)));iterate 3 (refine DA [] TK Q ?_)
   refine DA [2] TK Q (DA [] TK Q (BE hm λr37 hr37 hm=>DX [] Q Q (RN Q Q (SC (.d _) (SC (.d _) SN)) (cY hr37)) (DA [0] TK Q (DA [1] TK Q (DA [2] TK Q (DA [] TK Q (BE hm λr38 hr38 hm=>?_)))))));refine DX [] Q Q (RN Q Q (SC (.d _) (SC (.d _) (SC (.d _) (SC (.d _) SN)))) (kX hr38)) (DX [] Q Q (cI Q qNQ tM Q Q Q Q) (rO [5] _ (.mptr 5 0 0 0) Q (iS Q) Q (kV Q Q tM Q Q) ?_));refine DT ?_ (by kernel_rfl);refine SA TK Q (TN (WT ?_));exact⟨_,[0,1,2,3,5],(SJ hm),Q,k0,Q⟩
  replace hm:=JT hq31 hm;iterate 8 (refine DA [] TK Q ?_)
  refine DA [2] TK Q (DX [] Q Q (aP TK Q Q Q) (DA [] TK Q (d_b [] TK Q (λq39 hq39=>?_))));cases q39
  ·replace hm:=JF hq39 hm;iterate 7 (refine DA [] TK Q ?_)
   refine DA [2] TK Q (DA [] TK Q (BE hm λr40 hr40 hm=>DX [] Q Q (RN Q Q (SC (.d _) (SC (.d _) SN)) (cY hr40)) (DA [0] TK Q (DA [1] TK Q (DA [2] TK Q (DA [] TK Q (BE hm λr41 hr41 hm=>?_)))))));refine DX [] Q Q (RN Q Q (SC (.d _) (SC (.d _) (SC (.d _) (SC (.d _) SN)))) (kX hr41)) (DX [] Q Q (cI Q qNQ tM Q Q Q Q) (rO [5] _ (.mptr 5 0 0 0) Q (iS Q) Q (kV Q Q tM Q Q) ?_));refine DT ?_ (by kernel_rfl);refine SA TK Q (TN (WT ?_));exact⟨_,[0,1,2,3,5],(SJ hm),Q,k0,Q⟩
  replace hm:=JT hq39 hm;refine DA [] TK Q (DA [2] TK Q (DA [] TK Q (VE hm λe42 he42 hm=>DX [] Q Q (bZ TK Q Q Q Q he42) ?_)));iterate 3 (refine DA [] TK Q ?_)
  refine DA [2] TK Q (DA [] TK Q (BE hm λr43 hr43 hm=>DX [] Q Q (RN Q Q (SC (.d _) (SC (.d _) SN)) (cY hr43)) (DA [0] TK Q (DA [1] TK Q (DA [2] TK Q (DA [] TK Q (BE hm λr44 hr44 hm=>?_)))))));refine DX [] Q Q (RN Q Q (SC (.d _) (SC (.d _) (SC (.d _) (SC (.d _) SN)))) (kX hr44)) (DX [] Q Q (cI Q qNQ tM Q Q Q Q) (rO [5] _ (.mptr 5 0 0 0) Q (iS Q) Q (kV Q Q tM Q Q) ?_));refine DT ?_ (by kernel_rfl);refine SA TK Q (TN (WT ?_));exact⟨_,[0,1,2,3,5],(SJ hm),Q,k0,Q⟩
 obtain⟨c7,c8,c9,c10,c11,c12,c13,c14,c15,c16,c17,c18,c19,c20,c21,c22,c23,c24,c25,c26,c27⟩:=j;refine WN [4,6,8,9] Q Q (TQ (RS (SA TK Q (SA TK Q (SA TK Q (TN (WN [4,6,8,9,74] Q Q (TB (TQ (TB ?_))))))))));refine TQ (TB ?_);refine cM hm (λ_=>([]:Fr)) (λ_=>([]:List (Nat×Blk))) [] [8,9] Q (λz45 hm hz45=>?_) (λj hm=>?_)
 ·refine TB (TQ (TB (TQ (TQ (RS (SA TK Q (SA TK Q (TN (WN [4,6,8,9,74,75] Q Q ?_)))))))));refine TC _ Q (λh46=>?_) (λh46=>?_)
  ·replace hm:=JT h46 hm;refine aI (WX (WX (WH (WT (WN [4,6,8,9] Q Q (TQ (RS (SA TK Q (SA TK Q ?_)))))))));refine TN (WN [4,6,8,9,84] Q Q ?_);refine TC _ Q (λh47=>?_) (λh47=>?_)
   ·replace hm:=JA h47 hm;refine RS (SX Q Q (cI Q pG eX Q Q Q Q) (SA TK Q (TN (WN [8] Q Q (TR (WR (WB (IE hm λv48 hm hz=>?_))))))));rw [hz45 _ hz] at hm;refine WR (WB (WR (WB (WR (WB (WR ?_))))));obtain rfl:=OJ hm;exact EndsS.cellR _ TK Q Q Q Q Q (.d _)
   replace hm:=JB h47 hm;refine TS (WT (WN [4,6,8,9] Q Q (RS ?_)));iterate 4 (refine SA TK Q ?_)
   refine BE hm λr49 hr49 hm=>SX Q Q (RN Q Q (SC (.d _) (SC (.d _) (SC (.d _) SN))) (tP hr49)) (SA TK Q (TN (WN [8,9,91] Q Q ?_)));refine TC _ Q (λh50=>?_) (λh50=>?_)
   ·replace hm:=JA h50 hm;refine RS (SA TK Q (SA TK Q (SA TK Q (TN (WN [8] Q Q (TR (WB (IE hm λv51 hm hz=>?_))))))));rw [hz45 _ hz] at hm;refine WR (WB (WR (WB (WR (WB (WR ?_))))));obtain rfl:=OJ hm;exact EndsS.cellR _ TK Q Q Q Q Q (.d _)
   replace hm:=JB h50 hm;refine TS (WK (WT ?_));exact⟨_,[0,1,2,3,4],(SJ hm),Q,k0,Q⟩
  replace hm:=JF h46 hm;refine TS (WT (WN [8,9,74] Q Q (TQ (RS (SA TK Q (SA TK Q (TN (WN [8,9,74,77] Q Q ?_))))))));refine TC _ Q (λh52=>?_) (λh52=>?_)
  ·replace hm:=JT h52 hm;refine aI (WX (WX (mA Q (WX (WH (WT ?_))))));exact⟨_,[0,1,2,3,4],(SJ hm),Q,k0,Q⟩
  replace hm:=JF h52 hm;refine TS (WT (WN [8,9,74] Q Q (TQ (RS (SA TK Q (SA TK Q (TN (WN [8,9,74,79] Q Q ?_))))))));refine TC _ Q (λh53=>?_) (λh53=>?_)
  ·replace hm:=JT h53 hm;refine aI (WX (WX (mA Q (WX (mA Q (IE hm λv54 hm hz=>?_))))));rw [hz45 _ hz] at hm;refine WX (WH (WT (WN [8,9] Q Q (TQ (RS (SA TK Q (BE hm λr55 hr55 hm=>SX Q Q (RN Q Q (SC (.d _) SN) (xG hr55)) ?_)))))));refine SA TK Q (TN (WN [8] Q Q (TR (WR (WB (WR (WB (WR ?_))))))));obtain rfl:=OJ hm;exact EndsS.cellR _ TK Q Q Q Q Q (.d _)
  replace hm:=JF h53 hm;refine TS (WT (WN [8,9,74] Q Q (RS (SA TK Q (SA TK Q (TN (WN [8,9,81] Q Q ?_)))))));refine TC _ Q (λh56=>?_) (λh56=>?_)
  ·replace hm:=JT h56 hm;refine aI (WX (mA Q (WX (mA Q (IE hm λv57 hm hz=>?_)))));rw [hz45 _ hz] at hm;refine WX (mA Q (WX (WH (WT (WN [8,9] Q Q (TQ (RS (SA TK Q ?_))))))));refine BE hm λr58 hr58 hm=>SX Q Q (RN Q Q (SC (.d _) SN) (xH hr58)) (SA TK Q (TN (WN [8] Q Q (TR (WR (WB (WR ?_)))))));obtain rfl:=OJ hm;exact EndsS.cellR _ TK Q Q Q Q Q (.d _)
  replace hm:=JF h56 hm;refine TS (WT (WN [8] Q Q (aI (mA Q (WX (mA Q (IE hm λv59 hm hz=>?_)))))));rw [hz45 _ hz] at hm;refine WX (mA Q (WX (mA Q (WX (WH (WT (WN [8] Q Q (RS ?_))))))));refine SX Q Q (cI Q pG eX Q Q Q Q) (SA TK Q (TN (WN [8] Q Q (TR ?_))));obtain rfl:=OJ hm;exact EndsS.cellR _ TK Q Q Q Q Q (.d _)
 refine WN [8,9] Q Q (TQ (RS (SA TK Q (BE hm λr60 hr60 hm=>SX Q Q (RN Q Q (SC (.d _) SN) (wM hr60)) (SA TK Q (TN (WN [8] Q Q ?_)))))));refine TR (WR (WB (WR (WB (WR (WB (WR ?_)))))));obtain rfl:=OJ hm;exact EndsS.cellR _ TK Q Q Q Q Q (.d _)
theorem qZ {p0:(List Bool)} {p1:Int} {r:Bool} (hm:hZ p0 p1=some r):RetN Tryz.prog 169 [.sl 1 (p0.map D.bool),.int .i64 p1] (.bool (r)):=by
 refine .unit (aJ zFU Tryz.func169 Q Tryz.ntmps169 Q Q (λwX gX=>?_)) Q;unfold hZ at hm;refine WN [0,1] Q Q (RS (SA TK Q (TN (WN [0,1] Q Q ?_))));refine aL hm (λx1=>([(4,.d (.bool (x1)))]:Fr)) (λx1=>([]:List (Nat×Blk))) [4] [] Q (λz2 hm=>?_) (λx1 hm=>?_)
 ·refine TG (SA TK Q (SA TK Q (SB TK Q (λq3 hq3=>?_))));cases q3
  ·replace hm:=JF hq3 hm;refine SA TK Q (SA TK Q (SX Q Q (aP TK Q Q Q) (SA TK Q (SA TK Q (SB TK Q (λq4 hq4=>?_))))));cases q4
   ·replace hm:=JF hq4 hm;refine SA TK Q (SA TK Q (VE hm λe5 he5 hm=>SX Q Q (bZ TK Q Q Q Q he5) (SA TK Q (SA TK Q (SA TK Q (TN (WT ?_)))))));exact⟨_,[],(SJ hm),Q,k0,Q⟩
   replace hm:=JT hq4 hm;iterate 6 (refine SA TK Q ?_)
   refine TN (WT ?_);exact⟨_,[],(SJ hm),Q,k0,Q⟩
  replace hm:=JT hq3 hm;iterate 12 (refine SA TK Q ?_)
  refine TN (WT ?_);exact⟨_,[],(SJ hm),Q,k0,Q⟩
 refine WN [4] Q Q (TR ?_);obtain rfl:=OJ hm;exact EndsS.one _ Q (.d _) (.refl _)
theorem qOH {p0:Table} {p1:Inter} {p2:Inputs} {p3:Int} {r:Int} (hm:sN p0 p1 p2 p3=some r):RetN Tryz.prog 140 [p0.enc,p1.enc,p2.enc,.int .i64 p3] (.int .i64 r):=by
 refine .unit (aJ zGQ Tryz.func140 Q Tryz.ntmps140 Q Q (λwX gX=>?_)) Q;unfold sN at hm;refine WN [0,1,2,3] Q Q (RS (cZ 0 Q Q Q (cZ 1 Q Q Q (cZ 2 Q Q Q (SA TK Q (TN (WN [3,4,5,6] Q Q (TQ ?_))))))));refine aL hm (λx1=>([(35,.d (.bool (x1)))]:Fr)) (λx1=>([]:List (Nat×Blk))) [35] [3,4,5,6] Q (λz2 hm=>?_) (λx1 hm=>?_)
 ·refine TG (SA TK Q (SA TK Q (BE hm λr3 hr3 hm=>SX Q Q (RN Q Q (SC (.d _) (SC (.d _) SN)) (zX hr3)) (SA TK Q (SB TK Q (λq4 hq4=>?_))))));cases q4
  ·replace hm:=JB hq4 hm;refine SA TK Q (SA TK Q (SA TK Q (SB TK Q (λq5 hq5=>?_))));cases q5
   ·replace hm:=JF hq5 hm;refine SA TK Q (SA TK Q (SA TK Q (SX Q Q (aP TK Q Q Q) (SA TK Q (SA TK Q (TN (WT ?_)))))));exact⟨_,[0,1,2],(SJ hm),Q,k0,Q⟩
   replace hm:=JT hq5 hm;iterate 6 (refine SA TK Q ?_)
   refine TN (WT ?_);exact⟨_,[0,1,2],(SJ hm),Q,k0,Q⟩
  replace hm:=JA hq4 hm;iterate 10 (refine SA TK Q ?_)
  refine TN (WT ?_);exact⟨_,[0,1,2],(SJ hm),Q,k0,Q⟩
 refine WN [3,4,5,6,35] Q Q ?_;refine TC _ Q (λh6=>?_) (λh6=>?_)
 ·replace hm:=JA h6 hm;refine RS (SA TK Q (TN (WN [8] Q Q (TR (WR ?_)))));obtain rfl:=OJ hm;exact EndsS.one _ Q (.d _) (.refl _)
 replace hm:=JB h6 hm;refine TS (WT (WN [3,4,5,6] Q Q (TQ (RS (SA TK Q (SA TK Q (SA TK Q (VE hm λe7 he7 hm=>SX Q Q (bZ TK Q Q Q Q he7) (SA TK Q (SA TK Q (SA TK Q ?_)))))))))));refine TN (WN [3,4,5,6,42] Q Q ?_);refine TC _ Q (λh8=>?_) (λh8=>?_)
 ·replace hm:=dS h8 hm;refine RS (SA TK Q (TN (WN [8] Q Q (TR (WR ?_)))));obtain rfl:=OJ hm;exact EndsS.one _ Q (.d _) (.refl _)
 replace hm:=dT h8 hm;refine TS (WT (WN [3,4,5,6] Q Q (RS (SA TK Q (SA TK Q (SA TK Q (VE hm λe9 he9 hm=>SX Q Q (bZ TK Q Q Q Q he9) (SA TK Q (cW 3 Q Q jK Q ?_)))))))));refine dK 3 [none,none,none,some 3,some 2,some 1,none,none,some 3,some 2,some 1,some 2,some 1,some 2] Q Q (SA TK Q (TN (WN [3,4,5,6,9] Q Q (RS (SA TK Q (SX Q Q (cI Q pG eX Q Q Q Q) (BE hm λr10 hr10 hm=>SX Q Q (RD Q Q Q (sL hr10)) ?_)))))));refine SA TK Q (TN (WN [3,4,5,6,9,10] Q Q ?_));refine cM hm (λ_=>([]:Fr)) (λ_=>([]:List (Nat×Blk))) [] [3,4,5,6,9,10] Q (λz11 hm hz11=>?_) (λj hm=>?_)
 ·refine RS (SA TK Q (SX Q Q (aP TK Q Q Q) (SA TK Q (TN (WN [3,4,5,6,9,10,51,52,53] Q Q (TB (aZ hm (λx13=>([(53,.d (.int .i64 x13))]:Fr)) (λx13=>([]:List (Nat×Blk))) [53] [3,4,5,6,9,10,51,52] [0,1,2,3] Q k0 Q Q Q Q Q (λx13 z14 hm hz14=>WN [3,4,5,6,9,10,51,52,53] Q Q ?_))))))));refine RS (SA TK Q (TN (WN [3,4,5,6,9,10,51,52,53,54] Q Q (TQ ?_))));refine TC _ Q (λh15=>?_) (λh15=>?_)
  ·replace hm:=JT h15 hm;refine TS (WT (WN [3,4,5,6,9,10,51,52,53] Q Q (TQ (TB (RS (VE hm λe16 he16 hm=>SX Q Q (bZ TK Q Q Q Q he16) (SA TK Q ?_)))))));refine cW 4 Q Q pX Q (SA TK Q (TN (WN [3,4,5,6,9,10,12,51,52,53] Q Q (RS (SA TK Q (SA TK Q ?_))))));refine SX Q Q (sP Q qCN Q Q (by decide) (by decide) Q) ?_;refine SA TK Q (BE hm λr17 hr17 hm=>SX Q Q (RN Q Q (SC (.d _) (SC (.d _) SN)) (qZ hr17)) (TN (WN [3,4,5,6,9,10,51,52,53,61] Q Q ?_)));refine TC _ Q (λh18=>?_) (λh18=>?_)
   ·replace hm:=JA h18 hm;refine RS (SA TK Q (TN (WN [8] Q Q (TR (WB (WR (IE hm λv19 hm hz=>?_)))))));rw [hz14 _ hz] at hm;refine WR (WB (IE hm λv20 hm hz=>?_));rw [hz11 _ hz] at hm;refine WR ?_;obtain rfl:=OJ hm;exact EndsS.one _ Q (.d _) (.refl _)
   replace hm:=JB h18 hm;refine TS (WK (WT (WN [3,4,5,6,9,10,51,52,53] Q Q (TG (GE hm λg21 hm=>SX Q Q (aY Q Q Q Q g21) (SA TK Q (TN ?_)))))));refine WT ?_;exact⟨_,[0,1,2,3],(SJ hm),Q,k0,Q⟩
  replace hm:=JF h15 hm;refine aI (WX (IE hm λv22 hm hz=>?_));rw [hz14 _ hz] at hm;refine WX (WH (WT ?_));exact⟨_,[0,1,2,3],(SJ hm),Q,k0,Q⟩
 refine WN [3,4,5,6,9,10] Q Q ?_;refine cM hm (λ_=>([]:Fr)) (λ_=>([]:List (Nat×Blk))) [] [3,4,5,6,9] Q (λz23 hm hz23=>?_) (λj hm=>?_)
 ·refine RS (SA TK Q (SA TK Q (SX Q Q (aP TK Q Q Q) (SA TK Q (TN (WN [3,4,5,6,9,10,64,65,66] Q Q (TB (aZ hm (λx25=>([(66,.d (.int .i64 x25))]:Fr)) (λx25=>([]:List (Nat×Blk))) [66] [3,4,5,6,9,10,64,65] [0,1,2,3] Q k0 Q Q Q Q Q (λx25 z26 hm hz26=>WN [3,4,5,6,9,10,64,65,66] Q Q ?_)))))))));refine RS (SA TK Q (TN (WN [3,4,5,6,9,10,64,65,66,67] Q Q (TQ ?_))));refine TC _ Q (λh27=>?_) (λh27=>?_)
  ·replace hm:=JT h27 hm;refine TS (WT (WN [3,4,5,6,9,10,64,65,66] Q Q (TQ (TB (RS (SA TK Q (VE hm λe28 he28 hm=>SX Q Q (bZ TK Q Q Q Q he28) ?_)))))));refine SA TK Q (cW 4 Q Q jK Q (dK 4 [none,none,none,some 3,some 2,some 1,none,none,some 3,some 2,some 1,some 2,some 1,some 2] Q Q (SA TK Q (SA TK Q (TN (WN [3,4,5,6,9,10,13,14,64,65,66] Q Q ?_))))));refine aL hm (λx29=>([(86,.d (.bool (x29)))]:Fr)) (λx29=>([]:List (Nat×Blk))) [86] [3,4,5,6,9,10,64,65,66] Q (λz30 hm=>?_) (λx29 hm=>?_)
   ·refine cU follows  ?_;iterate 3 (refine DA [0,1,2,3,4] TK Q ?_)
    refine d_b [0,1,2,3,4] TK Q (λq31 hq31=>?_);cases q31
    ·replace hm:=dT hq31 hm;iterate 12 (refine DA [0,1,2,3,4] TK Q ?_)
     refine DT ?_ (by kernel_rfl);refine TN (WT ?_);exact⟨_,[0,1,2,3,4],(SJ hm),Q,k0,Q⟩
    replace hm:=dS hq31 hm;iterate 7 (refine DA [0,1,2,3,4] TK Q ?_)
    refine VE hm λe32 he32 hm=>DX [0,1,2,3,4] Q Q (bZ TK Q Q Q Q he32) (DA [0,1,2,3,4] TK Q (BE hm λr33 hr33 hm=>DX [0,1,2,3,4] Q Q (RD Q Q Q (sL hr33)) (BE hm λr34 hr34 hm=>DX [0,1,2,3,4] Q Q (RN Q Q (SC (.d _) (SC (.d _) (SC (.d _) (SC (.d _) SN)))) (zV hr34)) (DA [0,1,2,3,4] TK Q ?_))));refine DT ?_ (by kernel_rfl);refine TN (WT ?_);exact⟨_,[0,1,2,3,4],(SJ hm),Q,k0,Q⟩
   refine WN [3,4,5,6,9,10,64,65,66,86] Q Q ?_;refine TC _ Q (λh35=>?_) (λh35=>?_)
   ·replace hm:=JA h35 hm;refine RS (SA TK Q (TN (WN [8] Q Q (TR (WB (WR (IE hm λv36 hm hz=>?_)))))));rw [hz26 _ hz] at hm;refine WR (WB (IE hm λv37 hm hz=>?_));rw [hz23 _ hz] at hm;refine WR ?_;obtain rfl:=OJ hm;exact EndsS.one _ Q (.d _) (.refl _)
   replace hm:=JB h35 hm;refine TS (WK (WT (WN [3,4,5,6,9,10,64,65,66] Q Q (TG (GE hm λg38 hm=>SX Q Q (aY Q Q Q Q g38) (SA TK Q (TN ?_)))))));refine WT ?_;exact⟨_,[0,1,2,3],(SJ hm),Q,k0,Q⟩
  replace hm:=JF h27 hm;refine aI (WX (IE hm λv39 hm hz=>?_));rw [hz26 _ hz] at hm;refine WX (WH (WT ?_));exact⟨_,[0,1,2,3],(SJ hm),Q,k0,Q⟩
 refine WN [3,4,5,6,9] Q Q (RS (SA TK Q (BE hm λr40 hr40 hm=>SX Q Q (RD Q Q Q (fP hr40)) (SA TK Q (TN (WN [3,4,5,6,15] Q Q ?_))))));refine cM hm (λ_=>([]:Fr)) (λ_=>([]:List (Nat×Blk))) [] [4,5,6,15] Q (λz41 hm hz41=>?_) (λj hm=>?_)
 ·refine RS (SA TK Q (SA TK Q (SX Q Q (aP TK Q Q Q) (SA TK Q (TN (WN [3,4,5,6,15,91,92,93] Q Q (TB (aZ hm (λx43=>([(93,.d (.int .i64 x43))]:Fr)) (λx43=>([]:List (Nat×Blk))) [93] [3,4,5,6,15,91,92] [0,1,2,3] Q k0 Q Q Q Q Q (λx43 z44 hm hz44=>WN [3,4,5,6,15,91,92,93] Q Q ?_)))))))));refine RS (SA TK Q (TN (WN [3,4,5,6,15,91,92,93,94] Q Q (TQ ?_))));refine TC _ Q (λh45=>?_) (λh45=>?_)
  ·replace hm:=JT h45 hm;refine TS (WT (WN [3,4,5,6,15,91,92,93] Q Q (TQ (TB (RS (SA TK Q (VE hm λe46 he46 hm=>SX Q Q (bZ TK Q Q Q Q he46) ?_)))))));refine SA TK Q (cW 4 Q Q jK Q (dK 4 [none,none,none,some 3,some 2,some 1,none,none,some 3,some 2,some 1,some 2,some 1,some 2] Q Q (SA TK Q (SA TK Q (TN (WN [3,4,5,6,15,16,17,91,92,93] Q Q ?_))))));refine aL hm (λx47=>([(113,.d (.bool (x47)))]:Fr)) (λx47=>([]:List (Nat×Blk))) [113] [3,4,5,6,15,91,92,93] Q (λz48 hm=>?_) (λx47 hm=>?_)
   ·refine cU follows  ?_;iterate 3 (refine DA [0,1,2,3,4] TK Q ?_)
    refine d_b [0,1,2,3,4] TK Q (λq49 hq49=>?_);cases q49
    ·replace hm:=dT hq49 hm;iterate 12 (refine DA [0,1,2,3,4] TK Q ?_)
     refine DT ?_ (by kernel_rfl);refine TN (WT ?_);exact⟨_,[0,1,2,3,4],(SJ hm),Q,k0,Q⟩
    replace hm:=dS hq49 hm;iterate 6 (refine DA [0,1,2,3,4] TK Q ?_)
    refine VE hm λe50 he50 hm=>DX [0,1,2,3,4] Q Q (bZ TK Q Q Q Q he50) (DA [0,1,2,3,4] TK Q (BE hm λr51 hr51 hm=>DX [0,1,2,3,4] Q Q (RD Q Q Q (zW hr51)) (BE hm λr52 hr52 hm=>DX [0,1,2,3,4] Q Q (RN Q Q (SC (.d _) (SC (.d _) SN)) (mV hr52)) ?_)));iterate 2 (refine DA [0,1,2,3,4] TK Q ?_)
    refine DT ?_ (by kernel_rfl);refine TN (WT ?_);exact⟨_,[0,1,2,3,4],(SJ hm),Q,k0,Q⟩
   refine WN [3,4,5,6,15,91,92,93,113] Q Q ?_;refine TC _ Q (λh53=>?_) (λh53=>?_)
   ·replace hm:=JA h53 hm;refine RS (SA TK Q (TN (WN [8] Q Q (TR (WB (WR (IE hm λv54 hm hz=>?_)))))));rw [hz44 _ hz] at hm;refine WR (WB (IE hm λv55 hm hz=>?_));rw [hz41 _ hz] at hm;refine WR ?_;obtain rfl:=OJ hm;exact EndsS.one _ Q (.d _) (.refl _)
   replace hm:=JB h53 hm;refine TS (WK (WT (WN [3,4,5,6,15,91,92,93] Q Q (TG (GE hm λg56 hm=>SX Q Q (aY Q Q Q Q g56) (SA TK Q (TN ?_)))))));refine WT ?_;exact⟨_,[0,1,2,3],(SJ hm),Q,k0,Q⟩
  replace hm:=JF h45 hm;refine aI (WX (IE hm λv57 hm hz=>?_));rw [hz44 _ hz] at hm;refine WX (WH (WT ?_));exact⟨_,[0,1,2,3],(SJ hm),Q,k0,Q⟩
 refine WN [4,5,6,15] Q Q ?_;refine cM hm (λ_=>([]:Fr)) (λ_=>([]:List (Nat×Blk))) [] [] Q (λz58 hm hz58=>?_) (λj hm=>?_)
 ·refine RS (SA TK Q (SX Q Q (aP TK Q Q Q) (SA TK Q (TN (WN [4,5,6,115,116,117] Q Q (TB (aZ hm (λx60=>([(117,.d (.int .i64 x60))]:Fr)) (λx60=>([]:List (Nat×Blk))) [117] [4,5,6,115,116] [0,1,2,3] Q k0 Q Q Q Q Q (λx60 z61 hm hz61=>WN [4,5,6,115,116,117] Q Q ?_))))))));refine RS (SA TK Q (TN (WN [4,5,6,115,116,117,118] Q Q (TQ ?_))));refine TC _ Q (λh62=>?_) (λh62=>?_)
  ·replace hm:=JT h62 hm;refine TS (WT (WN [4,5,6,115,116,117] Q Q (TQ (TB (RS (VE hm λe63 he63 hm=>SX Q Q (bZ TK Q Q Q Q he63) (SA TK Q ?_)))))));refine cW 4 Q Q gQ Q (SA TK Q (TN (WN [4,5,6,19,115,116,117] Q Q (RS (SA TK Q (SA TK Q (SA TK Q (BE hm λr64 hr64 hm=>SX Q Q (RN Q Q (SC (.d _) (SC (.d _) SN)) (fW hr64)) (SA TK Q ?_)))))))));refine TN (WN [4,5,6,19,20,115,116,117] Q Q ?_);refine aL hm (λx65=>([(142,.d (.bool (x65)))]:Fr)) (λx65=>([]:List (Nat×Blk))) [142] [4,5,6,115,116,117] Q (λz66 hm=>?_) (λx65 hm=>?_)
   ·refine cU follows  ?_;iterate 3 (refine DA [0,1,2,3,4] TK Q ?_)
    refine VE hm λe67 he67 hm=>DX [0,1,2,3,4] Q Q (bZ TK Q Q Q Q he67) ?_;iterate 4 (refine DA [0,1,2,3,4] TK Q ?_)
    refine d_b [0,1,2,3,4] TK Q (λq68 hq68=>?_);cases q68
    ·replace hm:=dT hq68 hm;iterate 9 (refine DA [0,1,2,3,4] TK Q ?_)
     refine DT ?_ (by kernel_rfl);refine TN (WT ?_);exact⟨_,[0,1,2,3,4],(SJ hm),Q,k0,Q⟩
    replace hm:=dS hq68 hm;iterate 5 (refine DA [0,1,2,3,4] TK Q ?_)
    refine VE hm λe69 he69 hm=>DX [0,1,2,3,4] Q Q (bZ TK Q Q Q Q he69) (DA [0,1,2,3,4] TK Q (BE hm λr70 hr70 hm=>DX [0,1,2,3,4] Q Q (RN Q Q (SC (.d _) (SC (.d _) SN)) (qZ hr70)) (DA [0,1,2,3,4] TK Q ?_)));refine DT ?_ (by kernel_rfl);refine TN (WT ?_);exact⟨_,[0,1,2,3,4],(SJ hm),Q,k0,Q⟩
   refine WN [4,5,6,115,116,117,142] Q Q ?_;refine TC _ Q (λh71=>?_) (λh71=>?_)
   ·replace hm:=JA h71 hm;refine RS (SA TK Q (TN (WN [8] Q Q (TR (WB (WR (IE hm λv72 hm hz=>?_)))))));rw [hz61 _ hz] at hm;refine WR (WB (IE hm λv73 hm hz=>?_));rw [hz58 _ hz] at hm;refine WR ?_;obtain rfl:=OJ hm;exact EndsS.one _ Q (.d _) (.refl _)
   replace hm:=JB h71 hm;refine TS (WK (WT (WN [4,5,6,115,116,117] Q Q (TG (GE hm λg74 hm=>SX Q Q (aY Q Q Q Q g74) (SA TK Q (TN ?_)))))));refine WT ?_;exact⟨_,[0,1,2,3],(SJ hm),Q,k0,Q⟩
  replace hm:=JF h62 hm;refine aI (WX (IE hm λv75 hm hz=>?_));rw [hz61 _ hz] at hm;refine WX (WH (WT ?_));exact⟨_,[0,1,2,3],(SJ hm),Q,k0,Q⟩
 refine WN [] Q Q (RS (SA TK Q (TN (WN [8] Q Q (TR ?_)))));obtain rfl:=OJ hm;exact EndsS.one _ Q (.d _) (.refl _)
theorem zK {p0:Table} {p1:Inter} {r:(List Bool)} (hm:iA p0 p1=some r):RetD Tryz.prog 76 [p0.enc,p1.enc] (.sl 1 (r.map D.bool)):=by
 refine .of (mv:=λ_=>false) (aJ zLL Tryz.func76 Q Tryz.ntmps76 Q Q (λwX gX=>?_));unfold iA at hm;refine WN [0,1] Q Q (RS (cZ 0 Q Q Q (cZ 1 Q Q Q (SA TK Q (TN (WN [2,3] Q Q (RS (SA TK Q (SA TK Q ?_)))))))));refine GE hm λg1 hm=>zCO (f:=D.bool) (x:=false) 2 TK Q Q Q oK Q Q Q Q Q g1 Q (SA TK Q (TN (WN [2,3,5] Q Q ?_)));refine aL hm (λb2=>([(5,.msl 2 1 0 b2.length)]:Fr)) (λb2=>([(2,.flat 4 1 (b2.map D.bool))]:List (Nat×Blk))) [5] [] Q (λz3 hm=>?_) (λb2 hm=>?_)
 ·refine RS (SA TK Q (SA TK Q (SX Q Q (aP TK Q Q Q) (SA TK Q (TN (WN [3,5,12,13,14] Q Q (TB (aZ hm (λ(x7,b8)=>([(5,.msl 2 1 0 b8.length),(14,.d (.int .i64 x7))]:Fr)) (λ(x7,b8)=>([(2,.flat 4 1 (b8.map D.bool))]:List (Nat×Blk))) [5,14] [3,12,13] [0,1,2] Q k0 Q Q Q Q Q (λs z9 hm hz9=>?_)))))))));obtain⟨x7,b8⟩:=s;refine WN [3,5,12,13,14] Q Q (RS (SA TK Q (TN (WN [3,5,12,13,14,15] Q Q (TQ ?_)))));refine TC _ Q (λh10=>?_) (λh10=>?_)
  ·replace hm:=JT h10 hm;refine TS (WT (WN [3,5,12,13,14] Q Q (TQ (TB (RS (SA TK Q (VE hm λe11 he11 hm=>SX Q Q (bZ TK Q Q Q Q he11) ?_)))))));refine SA TK Q (cW 3 Q Q jK Q (dK 3 [none,none,none,some 3,some 2,some 1,none,none,some 3,some 2,some 1,some 2,some 1,some 2] Q Q (SA TK Q (SA TK Q (TN (WN [3,5,6,7,12,13,14] Q Q (RS (SA TK Q (SA TK Q (SA TK Q (VE hm λe12 he12 hm=>?_)))))))))));refine SX Q Q (bZ TK Q Q Q Q he12) (SA TK Q (SA TK Q (SA TK Q (TN (WN [3,5,7,12,13,14,25] Q Q ?_)))));refine TC _ Q (λh13=>?_) (λh13=>?_)
   ·replace hm:=JT h13 hm;refine TG (SA TK Q (SA TK Q (SA TK Q (VE hm λe14 he14 hm=>SX Q Q (pF TK Q Q Q Q he14 Q) (wY (x':=true) TK Q Q Q Q Q he14.2 Q Q Q (mD 5 (b8.set e11.entry.toNat true).length Q List.length_set.symm (mD 26 (b8.set e11.entry.toNat true).length Q List.length_set.symm (TN (WK ?_)))))))));refine WT (WN [3,5,12,13,14] Q Q (TG (GE hm λg15 hm=>SX Q Q (aY Q Q Q Q g15) (SA TK Q (TN (WT ?_))))));exact⟨_,[0,1,2],(SJ hm),Q,k0,Q⟩
   replace hm:=JF h13 hm;refine TS (WK (WT (WN [3,5,12,13,14] Q Q (TG (GE hm λg16 hm=>SX Q Q (aY Q Q Q Q g16) (SA TK Q (TN ?_)))))));refine WT ?_;exact⟨_,[0,1,2],(SJ hm),Q,k0,Q⟩
  replace hm:=JF h10 hm;refine aI (WX (IE hm λv17 hm hz=>?_));rw [hz9 _ hz] at hm;refine WX (WH (WT ?_));exact⟨_,[0,1,2],(SJ hm),Q,k0,Q⟩
 refine WN [5] Q Q (RS (SA TK Q (SA TK Q (TN (WN [4] Q Q (TR ?_))))));obtain rfl:=OJ hm;exact EndsS.one _ Q (dC Q) (.refl _)
theorem rJ {p0:(List RouteState)} {r:(List RouteState)} (hm:fQ p0=some r):Ret Tryz.prog 133 [] (λ_=>false) ([.sl 3 (p0.map RouteState.enc)].map .d) (.msl 0 3 0 r.length) [.flat 60 3 (r.map RouteState.enc)]:=by
 refine dE zGX Tryz.func133 Q Tryz.ntmps133 Q Q (λwX gX=>?_);unfold fQ at hm;refine WN [0] Q Q (RS (mC (f:=RouteState.enc) 0 60 3 Q Q Q (TN (WN [0] Q Q (TQ (RS (SA TK Q (qGA Q Tryz.underlying50 Q Q (λb1 hb1=>?_)))))))));refine TN (WN [0,4] Q Q ?_);refine TC _ Q (λh2=>?_) (λh2=>?_)
 ·obtain⟨hnb1,hm⟩:=qXK (hb1 h2) hm;subst hnb1;refine RS (mC (f:=RouteState.enc) 1 60 3 Q Q Q (TN (WN [2] Q Q (TR (WR ?_)))));obtain rfl:=OJ hm;exact⟨_,[1],res Q,by decide,k0,Q,Q⟩
 replace hm:=qXL hm;refine TS (WT (WN [0] Q Q (RS (wZ (f:=RouteState.enc) 1 [] ([]:List RouteState) TK Q Q Q eX Q Q Q Q Q (SA TK Q (GE hm λg3 hm=>gI (f:=RouteState.enc) p0 TK Q Q eX Q Q Q Q Q (λh=>absurd h (zQV _)) Q fZ g3 Q Q (SA TK Q ?_)))))));refine TN (WN [2] Q Q (TR ?_));obtain rfl:=OJ hm;exact⟨_,[1],res Q,by decide,k0,Q,Q⟩
theorem rA {p0:Inter} {r:Inter} (hm:jS p0=some r):Ret Tryz.prog 73 [] (λ_=>false) ([p0.enc].map .d) (.agg [.msl 0 3 0 r.routes.length,.msl 1 1 0 r.lies.length]) [.flat 60 3 (r.routes.map RouteState.enc),.flat 3 1 (r.lies.map (D.int .i64))]:=by
 refine dE zLO Tryz.func73 Q Tryz.ntmps73 Q Q (λwX gX=>?_);unfold jS at hm;refine WN [0] Q Q (RS (cZ 0 Q Q Q (cW 1 Q Q oI Q (gN (f:=RouteState.enc) 1 0 2 60 3 Q Q Q (gN (f:=(D.int .i64)) 1 1 3 3 1 Q Q Q (TN (WN [1,2] Q Q (eM ?_))))))));refine eM (bO follows  (DA [] TK Q (DA [0] TK Q (BE hm λr1 hr1 hm=>?_))));refine rO [4] [(4,.flat 60 3 (r1.map RouteState.enc))] (.msl 4 3 0 r1.length) Q (iS Q) Q (uD (Bs:=[.flat 60 3 (r1.map RouteState.enc)]) [4] (by intro i h;simp only [zQB,List.not_mem_nil,or_false] at h;rcases h with rfl<;>rfl) (by decide) Q Q Q Q (rJ hr1) (by intro B h;simp only [zQB,List.not_mem_nil,or_false] at h;rcases h with rfl<;>exact rV (λ_=>Q)) (.msl _ _ _ _) Q (by intro B h;simp only [zQB,List.not_mem_nil,or_false] at h;rcases h with rfl<;>rfl)) ?_;refine DA [] TK Q (DA [0] TK Q (BE hm λr2 hr2 hm=>?_));refine rO [5] [(5,.flat 3 1 (r2.map (D.int .i64)))] (.msl 5 1 0 r2.length) Q (iS Q) Q (uD (Bs:=[.flat 3 1 (r2.map (D.int .i64))]) [5] (by intro i h;simp only [zQB,List.not_mem_nil,or_false] at h;rcases h with rfl<;>rfl) (by decide) Q Q Q Q (mB hr2) (by intro B h;simp only [zQB,List.not_mem_nil,or_false] at h;rcases h with rfl<;>exact rV (λ_=>Q)) (.msl _ _ _ _) Q (by intro B h;simp only [zQB,List.not_mem_nil,or_false] at h;rcases h with rfl<;>rfl)) ?_;refine DX [] Q Q (iF Q qXD oI Q Q Q Q) ?_;refine DT ?_ (by kernel_rfl);refine SA TK Q (TN (WN [2] Q Q (TR ?_)));obtain rfl:=OJ hm;exact⟨_,[4,5],.mk _ (.cons (.agg (TK.lay Q) Q Q Q Q) .nil) Q,by decide,k0,Q,Q⟩
theorem vU {p0:Cycle} {p1:Int} {r:Cycle} (hm:fS p0 p1=some r):Ret Tryz.prog 75 [.box 122 [.msl 1 3 0 p0.inter.routes.length,.msl 2 1 0 p0.inter.lies.length,.d (.sl 14 (p0.t.routes.map Route.enc)),.d (.sl 1 (p0.t.points.map (D.int .i64))),.d (.sl 1 (p0.t.homes.map (D.int .i64))),.d (.int .i64 p0.t.sections),.d (.int .i64 p0.t.signals),.d (.sl 1 (p0.inV.occupied.map D.bool)),.d (.sl 1 (p0.inV.detected.map (D.int .i64))),.d (.sl 1 (p0.inV.closed.map D.bool)),.d (.sl 1 (p0.inV.claimed.map D.bool)),.d (.sl 1 (p0.inV.passed.map D.bool)),.d (.sl 1 (p0.inV.calls.map (D.int .i64))),.d (.sl 1 (p0.inV.cancels.map (D.int .i64))),.msl 3 1 0 p0.refused.length],.flat 60 3 (p0.inter.routes.map RouteState.enc),.flat 3 1 (p0.inter.lies.map (D.int .i64)),.flat 3 1 (p0.refused.map (D.int .i64))] (λj=>Nat.beq j 3) [.mptr 0 0 0 0,.d (.int .i64 p1)] (.tup []) [.box 122 [.msl 1 3 0 r.inter.routes.length,.msl 2 1 0 r.inter.lies.length,.d (.sl 14 (p0.t.routes.map Route.enc)),.d (.sl 1 (p0.t.points.map (D.int .i64))),.d (.sl 1 (p0.t.homes.map (D.int .i64))),.d (.int .i64 p0.t.sections),.d (.int .i64 p0.t.signals),.d (.sl 1 (p0.inV.occupied.map D.bool)),.d (.sl 1 (p0.inV.detected.map (D.int .i64))),.d (.sl 1 (p0.inV.closed.map D.bool)),.d (.sl 1 (p0.inV.claimed.map D.bool)),.d (.sl 1 (p0.inV.passed.map D.bool)),.d (.sl 1 (p0.inV.calls.map (D.int .i64))),.d (.sl 1 (p0.inV.cancels.map (D.int .i64))),.msl 3 1 0 r.refused.length],.flat 60 3 (r.inter.routes.map RouteState.enc),.flat 3 1 (r.inter.lies.map (D.int .i64)),.flat 3 1 (r.refused.map (D.int .i64))]:=by
 refine dE zLM Tryz.func75 Q Tryz.ntmps75 Q Q (λwX gX=>?_);unfold fS at hm;refine WN [0,1] Q Q (TQ (bO follows  ?_));iterate 13 (refine DA [0,1,2,3] TK Q ?_)
 refine BE hm λr1 hr1 hm=>DX [0,1,2,3] Q Q (RN Q Q (SC (.d _) (SC (iZ (.cons (dC Q) Q (.cons (dC Q) Q .nil))) (SC (.d _) (SC (.d _) SN)))) (qOH hr1)) (DA [0,1,2,3] TK Q ?_);refine DT ?_ (by kernel_rfl);refine TN (WN [0,1,20] Q Q ?_);refine TC _ Q (λh2=>?_) (λh2=>?_)
 ·replace hm:=dS h2 hm;refine RS ?_;iterate 6 (refine SA TK Q ?_)
  refine SX Q Q (fX [.tmp 26] TK Q Q lD Q Q Q Q Q) (GE hm λg3 hm=>gI (f:=(D.int .i64)) ([p1]:List Int) TK Q Q lD Q Q Q Q Q (λ_=>Q) Q fZ g3 Q Q (SA TK Q (SA TK Q (SA TK Q (TN (WN [] Q Q (TR (WR ?_))))))));obtain rfl:=OJ hm;exact⟨_,[0,1,2,3],res Q,by decide,(kB Q),Q,Q⟩
 replace hm:=dT h2 hm;refine TS (WT (WN [0,1] Q Q (RS ?_)));iterate 6 (refine SA TK Q ?_)
 refine SX Q Q (cI Q pG eX Q Q Q Q) (VE hm λe4 he4 hm=>SX Q Q (pF TK Q Q Q Q he4 Q) (wY (x':=(⟨(1:Int),(0:Int),(0:Int)⟩:RouteState)) TK Q Q Q Q Q he4.2 Q Q Q (mD 35 (p0.inter.routes.set p1.toNat (⟨(1:Int),(0:Int),(0:Int)⟩:RouteState)).length Q List.length_set.symm ?_)));refine qAZ 0 [.msl 1 3 0 (p0.inter.routes.set p1.toNat (⟨(1:Int),(0:Int),(0:Int)⟩:RouteState)).length,.msl 2 1 0 p0.inter.lies.length,.d (.sl 14 (p0.t.routes.map Route.enc)),.d (.sl 1 (p0.t.points.map (D.int .i64))),.d (.sl 1 (p0.t.homes.map (D.int .i64))),.d (.int .i64 p0.t.sections),.d (.int .i64 p0.t.signals),.d (.sl 1 (p0.inV.occupied.map D.bool)),.d (.sl 1 (p0.inV.detected.map (D.int .i64))),.d (.sl 1 (p0.inV.closed.map D.bool)),.d (.sl 1 (p0.inV.claimed.map D.bool)),.d (.sl 1 (p0.inV.passed.map D.bool)),.d (.sl 1 (p0.inV.calls.map (D.int .i64))),.d (.sl 1 (p0.inV.cancels.map (D.int .i64))),.msl 3 1 0 p0.refused.length] Q (by simp only [List.length_set]) ?_;refine TN (WN [0,1] Q Q (RS ?_));iterate 6 (refine SA TK Q ?_)
 refine VE hm λe5 he5 hm=>SX Q Q (bZ TK Q Q Q Q he5) (SA TK Q (BE hm λr6 hr6 hm=>SX Q Q (RD Q Q Q (fP hr6)) (SX Q Q (aP TK Q Q Q) (SA TK Q (TN (WN [0,47,48,49] Q Q ?_))))));refine TB (aZ hm (λ(x10,b11)=>([(49,.d (.int .i64 x10))]:Fr)) (λ(x10,b11)=>([(0,.box 122 [.msl 1 3 0 (p0.inter.routes.set p1.toNat (⟨(1:Int),(0:Int),(0:Int)⟩:RouteState)).length,.msl 2 1 0 b11.length,.d (.sl 14 (p0.t.routes.map Route.enc)),.d (.sl 1 (p0.t.points.map (D.int .i64))),.d (.sl 1 (p0.t.homes.map (D.int .i64))),.d (.int .i64 p0.t.sections),.d (.int .i64 p0.t.signals),.d (.sl 1 (p0.inV.occupied.map D.bool)),.d (.sl 1 (p0.inV.detected.map (D.int .i64))),.d (.sl 1 (p0.inV.closed.map D.bool)),.d (.sl 1 (p0.inV.claimed.map D.bool)),.d (.sl 1 (p0.inV.passed.map D.bool)),.d (.sl 1 (p0.inV.calls.map (D.int .i64))),.d (.sl 1 (p0.inV.cancels.map (D.int .i64))),.msl 3 1 0 p0.refused.length]),(2,.flat 3 1 (b11.map (D.int .i64)))]:List (Nat×Blk))) [49] [0,47,48] [0,1,2,3] Q (kB Q) Q Q Q Q Q (λs z12 hm hz12=>?_));obtain⟨x10,b11⟩:=s;refine WN [0,47,48,49] Q Q (RS (SA TK Q (TN (WN [0,47,48,49,50] Q Q (TQ ?_)))));refine TC _ Q (λh13=>?_) (λh13=>?_)
 ·replace hm:=JT h13 hm;refine TS (WT (WN [0,47,48,49] Q Q (TQ (TB (RS (VE hm λe14 he14 hm=>SX Q Q (bZ TK Q Q Q Q he14) (SA TK Q ?_)))))));refine cW 4 Q Q gQ Q (SA TK Q (TN (WN [0,5,47,48,49] Q Q (cU follows  ?_))));iterate 11 (refine DA [0,1,2,3,4] TK Q ?_)
  refine BE hm λr15 hr15 hm=>DX [0,1,2,3,4] Q Q (RN Q Q (SC (.d _) (SC (.d _) SN)) (fW hr15)) ?_;iterate 2 (refine DA [0,1,2,3,4] TK Q ?_)
  refine VE hm λe16 he16 hm=>DX [0,1,2,3,4] Q Q (pF TK Q Q Q Q he16 Q) ?_;refine DT ?_ (by kernel_rfl);refine wY (x':=e14.pos) TK Q Q Q Q Q he16.2 Q Q Q (mD 57 (b11.set r15.toNat e14.pos).length Q List.length_set.symm ?_);refine qAZ 0 [.msl 1 3 0 (p0.inter.routes.set p1.toNat (⟨(1:Int),(0:Int),(0:Int)⟩:RouteState)).length,.msl 2 1 0 (b11.set r15.toNat e14.pos).length,.d (.sl 14 (p0.t.routes.map Route.enc)),.d (.sl 1 (p0.t.points.map (D.int .i64))),.d (.sl 1 (p0.t.homes.map (D.int .i64))),.d (.int .i64 p0.t.sections),.d (.int .i64 p0.t.signals),.d (.sl 1 (p0.inV.occupied.map D.bool)),.d (.sl 1 (p0.inV.detected.map (D.int .i64))),.d (.sl 1 (p0.inV.closed.map D.bool)),.d (.sl 1 (p0.inV.claimed.map D.bool)),.d (.sl 1 (p0.inV.passed.map D.bool)),.d (.sl 1 (p0.inV.calls.map (D.int .i64))),.d (.sl 1 (p0.inV.cancels.map (D.int .i64))),.msl 3 1 0 p0.refused.length] Q (by simp only [List.length_set]) ?_;refine TN (WK (WT (WN [0,47,48,49] Q Q (TG (GE hm λg17 hm=>SX Q Q (aY Q Q Q Q g17) (SA TK Q (TN ?_)))))));refine WT ?_;exact⟨_,[0,1,2,3],(SJ hm),Q,(kB Q),Q⟩
 replace hm:=JF h13 hm;refine aI (WX (IE hm λv18 hm hz=>?_));rw [hz12 _ hz] at hm;refine WX (WH ?_);obtain rfl:=OJ hm;exact⟨_,[0,1,2,3],res Q,by decide,(kB Q),Q,Q⟩
theorem qBW {p0:Table} {p1:Inter} {p2:Inputs} {r0:Inter} {r1:Outputs} (hm:lI p0 p1 p2=some (r0,r1)):RetT Tryz.prog 27 [p0.enc,p1.enc,p2.enc] [r0.enc,r1.enc]:=by
 refine .of (mv:=λ_=>false) (uM zMS Tryz.func27 Q Tryz.ntmps27 Q Q (λwX gX=>?_));unfold lI at hm;refine WN [0,1,2] Q Q (RS (cZ 0 Q Q Q (cZ 1 Q Q Q (cZ 2 Q Q Q (cW 3 Q Q oI Q (gN (f:=RouteState.enc) 3 0 4 60 3 Q Q Q (gN (f:=(D.int .i64)) 3 1 5 3 1 Q Q Q (cW 6 Q Q qGU Q ?_))))))));refine dK 6 [some 1,some 1,some 1] Q Q (TN (WN [3,4,5,6,7] Q Q (RS (SA TK Q (SA TK Q (BE hm λr1 hr1 hm=>SX Q Q (RD Q Q Q (qOP hr1)) (SA TK Q (TN ?_))))))));refine WN [3,4,5,6,7,8] Q Q (TQ (RS (SA TK Q (SA TK Q (BE hm λr2 hr2 hm=>SX Q Q (RN Q Q (SC (.d _) (SC (.d _) SN)) (zX hr2)) (SA TK Q (TN (WN [3,4,5,6,7,8,20] Q Q ?_))))))));refine TC _ Q (λh3=>?_) (λh3=>?_)
 ·replace hm:=JA h3 hm;refine RS (SA TK Q (SA TK Q (BE hm λr4 hr4 hm=>SX Q Q (RD Q Q Q (kW hr4)) (SA TK Q (SX Q Q (cI Q zNW qGU Q Q Q Q) (qQK 25 [some 1,none,none] Q (cW 7 Q Q qGU Q (dK 7 [some 1,some 1,some 1] Q Q ?_))))))));refine SA TK Q (TN (WN [3,4,6,7,9] Q Q ?_));refine aL hm (λc5=>([]:Fr)) (λc5=>([(7,.box 65 [.d (.sl 1 (c5.map D.bool)),.d (.sl 1 (r4.map (D.int .i64))),.d (.sl 1 (r1.map (D.int .i64)))])]:List (Nat×Blk))) [] [4,6,7,9] Q (λz6 hm=>?_) (λc5 hm=>?_)
  ·refine RS (SA TK Q (BE hm λr7 hr7 hm=>SX Q Q (RN Q Q (SC (.d _) SN) (kE hr7)) (SA TK Q (TN (WN [3,4,6,7,9,28] Q Q ?_)))));refine TC _ Q (λh8=>?_) (λh8=>?_)
   ·replace hm:=JT h8 hm;refine TG (SA TK Q (SA TK Q (GE hm λg9 hm=>SX Q Q (qAD (f:=D.bool) (x:=false) TK Q Q oK Q Q Q Q Q g9 Q) (SA TK Q (SA TK Q (TN (WT ?_)))))));exact⟨_,[0,1,2,3,4,5,6,7],(SJ hm),Q,k0,Q⟩
   replace hm:=JF h8 hm;refine TS (WT ?_);exact⟨_,[0,1,2,3,4,5,6,7],(SJ hm),Q,k0,Q⟩
  refine WN [4,6,7,9] Q Q (eM (eM (bO follows  (DA [1] TK Q (BE hm λr10 hr10 hm=>?_)))));refine rO [8,9] [(8,.flat 60 3 (r10.routes.map RouteState.enc)),(9,.flat 3 1 (r10.lies.map (D.int .i64)))] (.agg [.msl 8 3 0 r10.routes.length,.msl 9 1 0 r10.lies.length]) Q (iS Q) Q (uD (Bs:=[.flat 60 3 (r10.routes.map RouteState.enc),.flat 3 1 (r10.lies.map (D.int .i64))]) [8,9] (by intro i h;simp only [zQB,List.not_mem_nil,or_false] at h;rcases h with rfl|rfl<;>rfl) (by decide) Q Q Q Q (rA hr10) (by intro B h;simp only [zQB,List.not_mem_nil,or_false] at h;rcases h with rfl|rfl<;>exact rV (λ_=>Q)) (.agg _ (by intro c h;simp only [zQB,List.not_mem_nil,or_false] at h;rcases h with rfl|rfl<;>first|exact .msl _ _ _ _|exact .d _ Q)) Q (by intro B h;simp only [zQB,List.not_mem_nil,or_false] at h;rcases h with rfl|rfl<;>rfl)) ?_;refine DA [7] TK Q (zFJ 1000002 [3] [(3,.box 52 [.msl 8 3 0 r10.routes.length,.msl 9 1 0 r10.lies.length])] (iS Q) Q (qTZ TK Q Q Q Q Q Q Q Q Q Q) ?_);refine DT ?_ (by kernel_rfl);refine SA TK Q (TN (WN [6,7] Q Q (TR (WR ?_))));obtain⟨rfl,rfl⟩:=Prod.mk.inj (Option.some.inj hm);exact⟨_,.mk _ (.cons (.agg (TK.lay Q) Q Q Q Q) (.cons (.agg (TK.lay Q) Q Q Q Q) .nil)) Q,(.cons (iZ (.cons (dC Q) Q (.cons (dC Q) Q .nil))) (.refl _) (.cons (.d _) (.refl _) .nil))⟩
 replace hm:=JB h3 hm;refine TS (WT (WN [3,4,5,6,7,8] Q Q (eM (eM (eM (bO follows  (DA [1] TK Q (BE hm λr11 hr11 hm=>?_))))))));refine rO [7,8] [(7,.flat 60 3 (r11.routes.map RouteState.enc)),(8,.flat 3 1 (r11.lies.map (D.int .i64)))] (.agg [.msl 7 3 0 r11.routes.length,.msl 8 1 0 r11.lies.length]) Q (iS Q) Q (uD (Bs:=[.flat 60 3 (r11.routes.map RouteState.enc),.flat 3 1 (r11.lies.map (D.int .i64))]) [7,8] (by intro i h;simp only [zQB,List.not_mem_nil,or_false] at h;rcases h with rfl|rfl<;>rfl) (by decide) Q Q Q Q (rA hr11) (by intro B h;simp only [zQB,List.not_mem_nil,or_false] at h;rcases h with rfl|rfl<;>exact rV (λ_=>Q)) (.agg _ (by intro c h;simp only [zQB,List.not_mem_nil,or_false] at h;rcases h with rfl|rfl<;>first|exact .msl _ _ _ _|exact .d _ Q)) Q (by intro B h;simp only [zQB,List.not_mem_nil,or_false] at h;rcases h with rfl|rfl<;>rfl)) ?_;refine DA [0] TK Q (DA [2] TK Q (DX [] Q Q (iF Q plc122 qWR Q Q Q Q) (rO [9] _ (.mptr 9 0 0 0) Q (iS Q) Q (kV Q Q qWR Q Q) ?_)));refine DT ?_ (by kernel_rfl);refine SA TK Q (gN (f:=(D.int .i64)) 9 14 10 3 1 Q Q Q (TN (WN [3,4,5,6,7,8,10] Q Q ?_)));refine aL hm (λb12=>([]:Fr)) (λb12=>([(7,.flat 60 3 (b12.map RouteState.enc)),(9,.box 122 [.msl 7 3 0 b12.length,.msl 8 1 0 r11.lies.length,.d (.sl 14 (p0.routes.map Route.enc)),.d (.sl 1 (p0.points.map (D.int .i64))),.d (.sl 1 (p0.homes.map (D.int .i64))),.d (.int .i64 p0.sections),.d (.int .i64 p0.signals),.d (.sl 1 (p2.occupied.map D.bool)),.d (.sl 1 (p2.detected.map (D.int .i64))),.d (.sl 1 (p2.closed.map D.bool)),.d (.sl 1 (p2.claimed.map D.bool)),.d (.sl 1 (p2.passed.map D.bool)),.d (.sl 1 (p2.calls.map (D.int .i64))),.d (.sl 1 (p2.cancels.map (D.int .i64))),.msl 10 1 0 ([]:List Int).length])]:List (Nat×Blk))) [] [3,6,7,8,10] Q (λz13 hm=>?_) (λb12 hm=>?_)
 ·refine RS ?_;iterate 5 (refine SA TK Q ?_)
  refine TN (WN [3,4,5,6,7,8,10,44,45] Q Q (TB (aZ hm (λ(x17,b18)=>([(45,.d (.int .i64 x17))]:Fr)) (λ(x17,b18)=>([(7,.flat 60 3 (b18.map RouteState.enc)),(9,.box 122 [.msl 7 3 0 b18.length,.msl 8 1 0 r11.lies.length,.d (.sl 14 (p0.routes.map Route.enc)),.d (.sl 1 (p0.points.map (D.int .i64))),.d (.sl 1 (p0.homes.map (D.int .i64))),.d (.int .i64 p0.sections),.d (.int .i64 p0.signals),.d (.sl 1 (p2.occupied.map D.bool)),.d (.sl 1 (p2.detected.map (D.int .i64))),.d (.sl 1 (p2.closed.map D.bool)),.d (.sl 1 (p2.claimed.map D.bool)),.d (.sl 1 (p2.passed.map D.bool)),.d (.sl 1 (p2.calls.map (D.int .i64))),.d (.sl 1 (p2.cancels.map (D.int .i64))),.msl 10 1 0 ([]:List Int).length])]:List (Nat×Blk))) [45] [3,4,5,6,7,8,10,44] [0,1,2,3,4,5,6,7,8,9,10] Q k0 Q Q Q Q Q (λs z19 hm hz19=>?_))));obtain⟨x17,b18⟩:=s;refine WN [3,4,5,6,7,8,10,44,45] Q Q (RS (SA TK Q (TN (WN [3,4,5,6,7,8,10,44,45,46] Q Q (TQ ?_)))));refine TC _ Q (λh20=>?_) (λh20=>?_)
  ·replace hm:=JT h20 hm;refine TS (WT (WN [3,4,5,6,7,8,10,44,45] Q Q (TQ (TB (RS (SA TK Q (SA TK Q (TN (WN [3,4,5,6,7,8,10,11,44,45] Q Q ?_)))))))));refine cU follows  ?_;iterate 8 (refine DA [0,1,2,3,4,5,6,7,8,9,10] TK Q ?_)
   refine BE hm λr21 hr21 hm=>DX [0,1,2,3,4,5,6,7,8,9,10] Q Q (RN Q Q (SC (.d _) (SC (.d _) (SC (.d _) (SC (.d _) SN)))) (qFS hr21)) (VE hm λe22 he22 hm=>DX [0,1,2,3,4,5,6,7,8,9,10] Q Q (pF TK Q Q Q Q he22 Q) ?_);refine DT ?_ (by kernel_rfl);refine wY (x':=r21) TK Q Q Q Q Q he22.2 Q Q Q (mD 50 (b18.set x17.toNat r21).length Q List.length_set.symm ?_);refine qAZ 9 [.msl 7 3 0 (b18.set x17.toNat r21).length,.msl 8 1 0 r11.lies.length,.d (.sl 14 (p0.routes.map Route.enc)),.d (.sl 1 (p0.points.map (D.int .i64))),.d (.sl 1 (p0.homes.map (D.int .i64))),.d (.int .i64 p0.sections),.d (.int .i64 p0.signals),.d (.sl 1 (p2.occupied.map D.bool)),.d (.sl 1 (p2.detected.map (D.int .i64))),.d (.sl 1 (p2.closed.map D.bool)),.d (.sl 1 (p2.claimed.map D.bool)),.d (.sl 1 (p2.passed.map D.bool)),.d (.sl 1 (p2.calls.map (D.int .i64))),.d (.sl 1 (p2.cancels.map (D.int .i64))),.msl 10 1 0 ([]:List Int).length] Q (by simp only [List.length_set]) ?_;refine TN (WK (WT (WN [3,4,5,6,7,8,10,44,45] Q Q (TG (GE hm λg23 hm=>SX Q Q (aY Q Q Q Q g23) (SA TK Q (TN ?_)))))));refine WT ?_;exact⟨_,[0,1,2,3,4,5,6,7,8,9,10],(SJ hm),Q,k0,Q⟩
  replace hm:=JF h20 hm;refine aI (WX (IE hm λv24 hm hz=>?_));rw [hz19 _ hz] at hm;refine WX (WH (WT ?_));exact⟨_,[0,1,2,3,4,5,6,7,8,9,10],(SJ hm),Q,k0,Q⟩
 refine WN [3,6,7,8,10] Q Q ?_;refine aL hm (λ(b25,b26,b27)=>([]:Fr)) (λ(b25,b26,b27)=>([(7,.flat 60 3 (b25.map RouteState.enc)),(8,.flat 3 1 (b26.map (D.int .i64))),(9,.box 122 [.msl 7 3 0 b25.length,.msl 8 1 0 b26.length,.d (.sl 14 (p0.routes.map Route.enc)),.d (.sl 1 (p0.points.map (D.int .i64))),.d (.sl 1 (p0.homes.map (D.int .i64))),.d (.int .i64 p0.sections),.d (.int .i64 p0.signals),.d (.sl 1 (p2.occupied.map D.bool)),.d (.sl 1 (p2.detected.map (D.int .i64))),.d (.sl 1 (p2.closed.map D.bool)),.d (.sl 1 (p2.claimed.map D.bool)),.d (.sl 1 (p2.passed.map D.bool)),.d (.sl 1 (p2.calls.map (D.int .i64))),.d (.sl 1 (p2.cancels.map (D.int .i64))),.msl 10 1 0 b27.length]),(10,.flat 3 1 (b27.map (D.int .i64)))]:List (Nat×Blk))) [] [3,6,7,10] Q (λz28 hm=>?_) (λj hm=>?_)
 ·refine RS (SA TK Q (SX Q Q (aP TK Q Q Q) (SA TK Q (TN (WN [3,6,7,10,59,60,61] Q Q (TB (aZ hm (λ(x34,b35,b36,b37)=>([(61,.d (.int .i64 x34))]:Fr)) (λ(x34,b35,b36,b37)=>([(7,.flat 60 3 (b36.map RouteState.enc)),(8,.flat 3 1 (b37.map (D.int .i64))),(9,.box 122 [.msl 7 3 0 b36.length,.msl 8 1 0 b37.length,.d (.sl 14 (p0.routes.map Route.enc)),.d (.sl 1 (p0.points.map (D.int .i64))),.d (.sl 1 (p0.homes.map (D.int .i64))),.d (.int .i64 p0.sections),.d (.int .i64 p0.signals),.d (.sl 1 (p2.occupied.map D.bool)),.d (.sl 1 (p2.detected.map (D.int .i64))),.d (.sl 1 (p2.closed.map D.bool)),.d (.sl 1 (p2.claimed.map D.bool)),.d (.sl 1 (p2.passed.map D.bool)),.d (.sl 1 (p2.calls.map (D.int .i64))),.d (.sl 1 (p2.cancels.map (D.int .i64))),.msl 10 1 0 b35.length]),(10,.flat 3 1 (b35.map (D.int .i64)))]:List (Nat×Blk))) [61] [3,6,7,10,59,60] [0,1,2,3,4,5,6,7,8,9,10] Q k0 Q Q Q Q Q (λs z38 hm hz38=>?_))))))));obtain⟨x34,b35,b36,b37⟩:=s;refine WN [3,6,7,10,59,60,61] Q Q (RS (SA TK Q (TN (WN [3,6,7,10,59,60,61,62] Q Q (TQ ?_)))));refine TC _ Q (λh39=>?_) (λh39=>?_)
  ·replace hm:=JT h39 hm;refine TS (WT (WN [3,6,7,10,59,60,61] Q Q (TQ (TB (RS (VE hm λe40 he40 hm=>SX Q Q (bZ TK Q Q Q Q he40) (SA TK Q (SA TK Q ?_))))))));refine TN (WN [3,6,7,10,13,59,60,61] Q Q (TG (SA TK Q (BE hm λr41 hr41 hm=>?_))));refine eS [9,7,8,10] (λj=>Nat.beq j 3) Q Q Q (by decide) Q Q Q Q (vU hr41) Q Q Q ?_;refine TN (WK (WT (WN [3,6,7,10,59,60,61] Q Q (TG (GE hm λg42 hm=>SX Q Q (aY Q Q Q Q g42) (SA TK Q (TN ?_)))))));refine WT ?_;exact⟨_,[0,1,2,3,4,5,6,7,8,9,10],(SJ hm),Q,k0,Q⟩
  replace hm:=JF h39 hm;refine aI (WX (IE hm λv43 hm hz=>?_));rw [hz38 _ hz] at hm;refine WX (WH (WT ?_));exact⟨_,[0,1,2,3,4,5,6,7,8,9,10],(SJ hm),Q,k0,Q⟩
 obtain⟨b25,b26,b27⟩:=j;refine WN [3,6,7,10] Q Q ?_;refine zHO 9 0 7 [3,6,7,10] Q Q Q Q Q Q (by simp) Q Q Q ?_;refine zHO 9 1 8 [3,6,7,10] Q Q Q Q Q Q (by simp) Q Q Q ?_;refine bO follows  (DA [] TK Q (DA [9] TK Q (DA [0] TK Q (DA [] TK Q (DA [9] TK Q (BE hm λr44 hr44 hm=>DX [] Q Q (RD Q Q Q (zK hr44)) ?_))))));iterate 2 (refine DA [] TK Q ?_)
 refine DA [9] TK Q (BE hm λr45 hr45 hm=>DX [] Q Q (RD Q Q Q (kW hr45)) (DA [] TK Q (DA [9] TK Q (DX [] Q Q (iF Q zNW qGU Q Q Q Q) (zFJ 1000004 [3] [(3,.box 52 [.d (.sl 3 (b25.map RouteState.enc)),.d (.sl 1 (b26.map (D.int .i64)))])] (iS Q) Q (qTZ TK Q Q Q Q Q Q Q Q Q Q) ?_)))));refine DT ?_ (by kernel_rfl);refine SA TK Q (TN (WN [6,7] Q Q (TR ?_)));obtain⟨rfl,rfl⟩:=Prod.mk.inj (Option.some.inj hm);exact⟨_,.mk _ (.cons (.agg (TK.lay Q) Q Q Q Q) (.cons (.agg (TK.lay Q) Q Q Q Q) .nil)) Q,(.cons (.d _) (.refl _) (.cons (iZ (.cons (.d _) Q (.cons (.d _) Q (.cons (dC Q) Q .nil)))) (.refl _) .nil))⟩
theorem qKS {p0:Table} {p1:Machine} {p2:Inter} {r:Bool} (hm:qM p0 p1 p2=some r):RetN Tryz.prog 28 [p0.enc,p1.enc,p2.enc] (.bool (r)):=by
 refine .unit (aJ zMR Tryz.func28 Q Tryz.ntmps28 Q Q (λwX gX=>?_)) Q;unfold qM at hm;refine WN [0,1,2] Q Q (RS (cZ 0 Q Q Q (cZ 1 Q Q Q (cZ 2 Q Q Q (SA TK Q (TN (WN [3,4,5] Q Q (RS ?_))))))));refine SA TK Q (BE hm λr1 hr1 hm=>SX Q Q (RD Q Q Q (qDD hr1)) (cW 3 Q Q qML Q (dK 3 [none,none,none,none,none,some 1] Q Q (SA TK Q (TN (WN [3,4,5,7] Q Q (TQ ?_)))))));refine kJ [(30,.d (.bool (((!(decide ((p1.vars.length:Int)=r1.all)))||(!(decide ((p2.routes.length:Int)=(p0.routes.length:Int))))))))] [30] [3,4,5,7] Q ?_ ?_
 ·refine TG (SA TK Q (SA TK Q (SX Q Q (aP TK Q Q Q) (SA TK Q (SA TK Q (SA TK Q (SB TK Q (λq2 hq2=>?_))))))));cases q2
  ·refine SA TK Q (SA TK Q (SX Q Q (aP TK Q Q Q) (SA TK Q (SA TK Q (SX Q Q (aP TK Q Q Q) (SA TK Q (SA TK Q (TN (WT ?_)))))))));exact⟨[0,1,2,3],Q,k0,dJ (bK (bL (by simp [hq2])) Q) Q⟩
  iterate 8 (refine SA TK Q ?_)
  refine TN (WT ?_);exact⟨[0,1,2,3],Q,k0,dJ (bK (bL (by simp [hq2])) Q) Q⟩
 refine WN [3,4,5,7,30] Q Q ?_;refine TC _ Q (λh3=>?_) (λh3=>?_)
 ·replace hm:=JA h3 hm;refine RS (SA TK Q (TN (WN [6] Q Q (TR (WR ?_)))));obtain rfl:=OJ hm;exact EndsS.one _ Q (.d _) (.refl _)
 replace hm:=JB h3 hm;refine TS (WT (WN [3,4,5,7] Q Q ?_));refine cM hm (λ_=>([]:Fr)) (λ_=>([]:List (Nat×Blk))) [] [] Q (λz4 hm hz4=>?_) (λj hm=>?_)
 ·refine RS (SA TK Q (SA TK Q (SX Q Q (aP TK Q Q Q) (SA TK Q (TN (WN [3,4,7,32,33,34] Q Q (TB (aZ hm (λx6=>([(34,.d (.int .i64 x6))]:Fr)) (λx6=>([]:List (Nat×Blk))) [34] [3,4,7,32,33] [0,1,2,3] Q k0 Q Q Q Q Q (λx6 z7 hm hz7=>WN [3,4,7,32,33,34] Q Q ?_)))))))));refine RS (SA TK Q (TN (WN [3,4,7,32,33,34,35] Q Q (TQ ?_))));refine TC _ Q (λh8=>?_) (λh8=>?_)
  ·replace hm:=JT h8 hm;refine TS (WT (WN [3,4,7,32,33,34] Q Q ?_));refine cM hm (λ_=>([]:Fr)) (λ_=>([]:List (Nat×Blk))) [] [3,4,7,32,33,34] Q (λz9 hm hz9=>?_) (λj hm=>?_)
   ·refine TB (RS (SA TK Q (VE hm λe10 he10 hm=>SX Q Q (bZ TK Q Q Q Q he10) (SA TK Q (cW 4 Q Q eX Q (SA TK Q (SA TK Q (TN ?_))))))));refine WN [3,4,7,8,9,32,33,34] Q Q (RS (SA TK Q (SA TK Q (SA TK Q (VE hm λe11 he11 hm=>SX Q Q (bZ TK Q Q Q Q he11) (SA TK Q (SA TK Q (SA TK Q (TN (WN [3,4,7,8,9,10,11,32,33,34] Q Q ?_))))))))));refine aL hm (λn12=>([(11,.d (.int .i64 n12))]:Fr)) (λn12=>([]:List (Nat×Blk))) [11] [3,4,7,8,9,10,32,33,34] Q (λz13 hm=>?_) (λn12 hm=>?_)
    ·refine RS (SA TK Q (TN (WN [3,4,7,8,9,10,11,32,33,34,44] Q Q (TB (aZ hm (λ(n16,x17)=>([(11,.d (.int .i64 n16)),(44,.d (.int .i64 x17))]:Fr)) (λ(n16,x17)=>([]:List (Nat×Blk))) [11,44] [3,4,7,8,9,10,32,33,34] [0,1,2,3,4] Q k0 Q Q Q Q Q (λs z18 hm hz18=>?_))))));obtain⟨n16,x17⟩:=s;refine WN [3,4,7,8,9,10,11,32,33,34,44] Q Q (RS (SA TK Q (TN (WN [3,4,7,8,9,10,11,32,33,34,44,45] Q Q (TQ ?_)))));refine TC _ Q (λh19=>?_) (λh19=>?_)
     ·replace hm:=JT h19 hm;refine TS (WT (WN [3,4,7,8,9,10,11,32,33,34,44] Q Q (TQ (TB (RS (SA TK Q (SA TK Q (TN (WN [3,4,7,8,9,10,11,12,32,33,34,44] Q Q ?_)))))))));refine RS ?_;iterate 4 (refine SA TK Q ?_)
      refine GE hm λg20 hm=>SX Q Q (aY Q Q Q Q g20) (VE hm λe21 he21 hm=>SX Q Q (bZ TK Q Q Q Q he21) (SA TK Q (TN (WN [3,4,7,8,9,10,11,32,33,34,44,53] Q Q ?_))));refine TC _ Q (λh22=>?_) (λh22=>?_)
      ·replace hm:=JA h22 hm;refine TG (SA TK Q (GE hm λg23 hm=>SX Q Q (aY Q Q Q Q g23) (SA TK Q (TN (WK (WT (WN [3,4,7,8,9,10,11,32,33,34,44] Q Q ?_)))))));refine TG (GE hm λg24 hm=>SX Q Q (aY Q Q Q Q g24) (SA TK Q (TN (WT ?_))));exact⟨_,[0,1,2,3,4],(SJ hm),Q,k0,Q⟩
      replace hm:=JB h22 hm;refine TS (WK (WT (WN [3,4,7,8,9,10,11,32,33,34,44] Q Q (TG (GE hm λg25 hm=>SX Q Q (aY Q Q Q Q g25) (SA TK Q (TN ?_)))))));refine WT ?_;exact⟨_,[0,1,2,3,4],(SJ hm),Q,k0,Q⟩
     replace hm:=JF h19 hm;refine aI (WX (IE hm λv26 hm hz=>?_));rw [hz18 _ hz] at hm;refine WX (WH (WT ?_));exact⟨_,[0,1,2,3,4],(SJ hm),Q,k0,Q⟩
    refine WN [3,4,7,8,9,10,11,32,33,34] Q Q (TQ (RS (SA TK Q (SA TK Q (TN (WN [3,4,7,8,9,10,32,33,34,58] Q Q ?_))))));refine TC _ Q (λh27=>?_) (λh27=>?_)
    ·replace hm:=JT h27 hm;refine RS (SA TK Q (TN (WN [6] Q Q (TR (WR (WB (IE hm λv28 hm hz=>?_)))))));rw [hz9 _ hz] at hm;refine WR (IE hm λv29 hm hz=>?_);rw [hz7 _ hz] at hm;refine WR (WB (IE hm λv30 hm hz=>?_));rw [hz4 _ hz] at hm;refine WR ?_;obtain rfl:=OJ hm;exact EndsS.one _ Q (.d _) (.refl _)
    replace hm:=JF h27 hm;refine TS (WT (WN [3,4,7,8,9,10,32,33,34] Q Q (RS (SA TK Q (SA TK Q (SA TK Q (VE hm λe31 he31 hm=>SX Q Q (bZ TK Q Q Q Q he31) (SA TK Q (SA TK Q (SX Q Q (aP TK Q Q Q) ?_))))))))));refine GE hm λg32 hm=>SX Q Q (aY Q Q Q Q g32) (SA TK Q (TN (WN [3,4,7,9,10,32,33,34,66,67] Q Q (TB (aZ hm (λx34=>([(67,.d (.int .i64 x34))]:Fr)) (λx34=>([]:List (Nat×Blk))) [67] [3,4,7,9,10,32,33,34,66] [0,1,2,3,4] Q k0 Q Q Q Q Q (λx34 z35 hm hz35=>WN [3,4,7,9,10,32,33,34,66,67] Q Q (RS ?_)))))));refine SA TK Q (TN (WN [3,4,7,9,10,32,33,34,66,67,68] Q Q (TQ ?_)));refine TC _ Q (λh36=>?_) (λh36=>?_)
    ·replace hm:=JT h36 hm;refine TS (WT (WN [3,4,7,9,10,32,33,34,66,67] Q Q (TQ (TB (RS (SA TK Q (SA TK Q (TN (WN [3,4,7,9,10,13,32,33,34,66,67] Q Q ?_)))))))));refine bO follows  ?_;iterate 3 (refine DA [0,1,2,3,4] TK Q ?_)
     refine GE hm λg37 hm=>DX [0,1,2,3,4] Q Q (aY Q Q Q Q g37) (DA [0,1,2,3,4] TK Q (GE hm λg38 hm=>DX [0,1,2,3,4] Q Q (aY Q Q Q Q g38) (VE hm λe39 he39 hm=>DX [0,1,2,3,4] Q Q (bZ TK Q Q Q Q he39) ?_)));iterate 6 (refine DA [0,1,2,3,4] TK Q ?_)
     refine DT ?_ (by kernel_rfl);refine TN (WN [3,4,7,9,10,32,33,34,66,67,82] Q Q ?_);refine TC _ Q (λh40=>?_) (λh40=>?_)
     ·replace hm:=JA h40 hm;refine RS (SA TK Q (TN (WN [6] Q Q (TR (WB (WR (IE hm λv41 hm hz=>?_)))))));rw [hz35 _ hz] at hm;refine WR (WB (WB (IE hm λv42 hm hz=>?_)));rw [hz9 _ hz] at hm;refine WR (IE hm λv43 hm hz=>?_);rw [hz7 _ hz] at hm;refine WR (WB (IE hm λv44 hm hz=>?_));rw [hz4 _ hz] at hm;refine WR ?_;obtain rfl:=OJ hm;exact EndsS.one _ Q (.d _) (.refl _)
     replace hm:=JB h40 hm;refine TS (WK (WT (WN [3,4,7,9,10,32,33,34,66,67] Q Q (TG (GE hm λg45 hm=>SX Q Q (aY Q Q Q Q g45) (SA TK Q (TN ?_)))))));refine WT ?_;exact⟨_,[0,1,2,3,4],(SJ hm),Q,k0,Q⟩
    replace hm:=JF h36 hm;refine aI (WX (IE hm λv46 hm hz=>?_));rw [hz35 _ hz] at hm;refine WX (WH (WK (WT ?_)));exact⟨_,[0,1,2,3],(SJ hm),Q,k0,Q⟩
   refine WN [3,4,7,32,33,34] Q Q (TG (GE hm λg47 hm=>SX Q Q (aY Q Q Q Q g47) (SA TK Q (TN (WT ?_)))));exact⟨_,[0,1,2,3],(SJ hm),Q,k0,Q⟩
  replace hm:=JF h8 hm;refine aI (WX (IE hm λv48 hm hz=>?_));rw [hz7 _ hz] at hm;refine WX (WH (WT ?_));exact⟨_,[0,1,2,3],(SJ hm),Q,k0,Q⟩
 refine WN [] Q Q (RS (SA TK Q (TN (WN [6] Q Q (TR ?_)))));obtain rfl:=OJ hm;exact EndsS.one _ Q (.d _) (.refl _)
theorem wO {p0:Table} {p1:(List Inputs)} {r:Bool} (hm:kO p0 p1=some r):Ret Tryz.prog 8 [] (λ_=>false) ([p0.enc,.sl 7 (p1.map Inputs.enc)].map .d) (.d (.bool (r))) []:=by
 refine aJ callB8 Tryz.func8 Q Tryz.ntmps8 Q Q (λwX gX=>?_);unfold kO at hm;refine WN [0,1] Q Q (RS (cZ 0 Q Q Q (SA TK Q (TN (WN [1,2] Q Q (TQ ?_))))));refine aL hm (λx1=>([(20,.d (.bool (x1)))]:Fr)) (λx1=>([]:List (Nat×Blk))) [20] [1,2] Q (λz2 hm=>?_) (λx1 hm=>?_)
 ·refine TG (SA TK Q (BE hm λr3 hr3 hm=>SX Q Q (RN Q Q (SC (.d _) SN) (qKR hr3)) (SA TK Q (SB TK Q (λq4 hq4=>?_)))));cases q4
  ·replace hm:=JB hq4 hm;refine SA TK Q (SX Q Q (aP TK Q Q Q) (SA TK Q (SA TK Q (TN (WT ?_)))));exact⟨_,[0],(SJ hm),Q,k0,Q⟩
  replace hm:=JA hq4 hm;iterate 4 (refine SA TK Q ?_)
  refine TN (WT ?_);exact⟨_,[0],(SJ hm),Q,k0,Q⟩
 refine WN [1,2,20] Q Q ?_;refine TC _ Q (λh5=>?_) (λh5=>?_)
 ·replace hm:=JA h5 hm;refine RS (BE hm λr6 hr6 hm=>SX Q Q (RN Q Q SN (tY hr6)) (SA TK Q (TN (WN [4] Q Q (TR (WR ?_))))));obtain rfl:=OJ hm;exact EndsS.one _ Q (.d _) (.refl _)
 replace hm:=JB h5 hm;refine TS (WT (WN [1,2] Q Q (RS (SA TK Q (BE hm λr7 hr7 hm=>?_)))));obtain⟨r8,r9⟩:=r7;refine SX Q Q (yH Q Q Q (tT hr7)) (SA TK Q (SA TK Q (SA TK Q (cW 1 Q Q qGV Q (dK 1 [some 1,none,some 6] Q Q (SA TK Q (SA TK Q (TN (WN [1,2,5,6] Q Q (TQ (RS ?_)))))))))));refine SA TK Q (SA TK Q (TN (WN [1,2,5,28] Q Q ?_)));refine TC _ Q (λh10=>?_) (λh10=>?_)
 ·replace hm:=dS h10 hm;refine RS (BE hm λr11 hr11 hm=>SX Q Q (RN Q Q SN (tY hr11)) (SA TK Q (TN (WN [4] Q Q (TR (WR ?_))))));obtain rfl:=OJ hm;exact EndsS.one _ Q (.d _) (.refl _)
 replace hm:=dT h10 hm;refine TS (WT (WN [1,2,5] Q Q (eM (eM (bO follows  (DA [1] TK Q (BE hm λr12 hr12 hm=>DX [] Q Q (RD Q Q Q (qET hr12)) ?_)))))));refine DA [0] TK Q (BE hm λr13 hr13 hm=>DX [] Q Q (RD Q Q Q (qBV hr13)) (rO [2] _ (.mptr 2 0 0 0) Q (iS Q) Q (kV Q Q oJ Q Q) (rO [3] _ (.mptr 3 0 0 0) Q (iS Q) Q (kV Q Q oI Q Q) ?_)));refine DT ?_ (by kernel_rfl);refine SA TK Q (SA TK Q (TN (WN [1,2,5,7,8] Q Q ?_)));refine cM hm (λ(c14,c15,c16,c17,c18)=>([]:Fr)) (λ(c14,c15,c16,c17,c18)=>([(2,.box 48 [.d (.sl 1 (c14.map D.bool)),.d (.sl 1 (c15.map (D.int .i64))),.d (.bool (c16))]),(3,.box 52 [.d (.sl 3 (c17.map RouteState.enc)),.d (.sl 1 (c18.map (D.int .i64)))])]:List (Nat×Blk))) [] [] Q (λz19 hm hz19=>?_) (λj hm=>?_)
 ·refine RS (SA TK Q (SX Q Q (aP TK Q Q Q) (SA TK Q (TN (WN [2,5,7,8,34,35,36] Q Q (TB (aZ hm (λ(x27,c28,c29,c30,c31,c32)=>([(36,.d (.int .i64 x27))]:Fr)) (λ(x27,c28,c29,c30,c31,c32)=>([(2,.box 48 [.d (.sl 1 (c28.map D.bool)),.d (.sl 1 (c29.map (D.int .i64))),.d (.bool (c30))]),(3,.box 52 [.d (.sl 3 (c31.map RouteState.enc)),.d (.sl 1 (c32.map (D.int .i64)))])]:List (Nat×Blk))) [36] [2,5,7,8,34,35] [0,1,2,3] Q k0 Q Q Q Q Q (λs z33 hm hz33=>?_))))))));obtain⟨x27,c28,c29,c30,c31,c32⟩:=s;refine WN [2,5,7,8,34,35,36] Q Q (RS (SA TK Q (TN (WN [2,5,7,8,34,35,36,37] Q Q (TQ ?_)))));refine TC _ Q (λh34=>?_) (λh34=>?_)
  ·replace hm:=JT h34 hm;refine TS (WT (WN [2,5,7,8,34,35,36] Q Q (TQ (TB (RS (VE hm λe35 he35 hm=>SX Q Q (bZ TK Q Q Q Q he35) (SA TK Q ?_)))))));refine cW 4 Q Q qTU Q (dK 4 [some 1,some 1,some 1,some 1,some 1,some 1,some 1] Q Q (SA TK Q (TN (WN [2,5,7,8,10,34,35,36] Q Q (bO follows  ?_)))));iterate 4 (refine DA [0,1,2,3,4] TK Q ?_)
   refine BE hm λr36 hr36 hm=>DX [0,1,2,3,4] Q Q (RD Q Q Q (pT hr36)) (BE hm λr37 hr37 hm=>DX [0,1,2,3,4] Q Q (RD Q Q Q (qAH hr37)) ?_);refine DT ?_ (by kernel_rfl);refine SA TK Q (TN (WN [2,5,7,8,10,34,35,36] Q Q (RS (SA TK Q (SA TK Q (SA TK Q (BE hm λr38 hr38 hm=>?_)))))));obtain⟨r39,r40⟩:=r38;refine SX Q Q (yH Q Q Q (qBW hr38)) (SA TK Q (SA TK Q (SA TK Q (cW 5 Q Q oI Q (dK 5 [some 3,some 1] Q Q (cW 6 Q Q qGU Q (dK 6 [some 1,some 1,some 1] Q Q (SA TK Q (SA TK Q (TN (WN [2,5,7,8,11,12,34,35,36] Q Q ?_)))))))))));refine RS (SA TK Q (SA TK Q (TN (WN [2,5,7,8,12,34,35,36] Q Q ?_))));refine aL hm (λx41=>([(79,.d (.bool (x41)))]:Fr)) (λx41=>([]:List (Nat×Blk))) [79] [2,5,7,8,34,35,36] Q (λz42 hm=>?_) (λx41 hm=>?_)
   ·refine cU follows  ?_;iterate 2 (refine DA [0,1,2,3,4,5,6] TK Q ?_)
    refine d_b [0,1,2,3,4,5,6] TK Q (λq43 hq43=>?_);cases q43
    ·replace hm:=JB hq43 hm;iterate 2 (refine DA [0,1,2,3,4,5,6] TK Q ?_)
     refine BE hm λr44 hr44 hm=>DX [0,1,2,3,4,5,6] Q Q (RD Q Q Q (qW hr44)) (DA [0,1,2,3,4,5,6] TK Q (BE hm λr45 hr45 hm=>DX [0,1,2,3,4,5,6] Q Q (RN Q Q (SC (.d _) (SC (.d _) SN)) (qNI hr45)) ?_));iterate 2 (refine DA [0,1,2,3,4,5,6] TK Q ?_)
     refine d_b [0,1,2,3,4,5,6] TK Q (λq46 hq46=>?_);cases q46
     ·replace hm:=JB hq46 hm;iterate 2 (refine DA [0,1,2,3,4,5,6] TK Q ?_)
      refine BE hm λr47 hr47 hm=>DX [0,1,2,3,4,5,6] Q Q (RD Q Q Q (wH hr47)) ?_;iterate 2 (refine DA [0,1,2,3,4,5,6] TK Q ?_)
      refine BE hm λr48 hr48 hm=>DX [0,1,2,3,4,5,6] Q Q (RN Q Q (SC (.d _) (SC (.d _) SN)) (qKT hr48)) ?_;iterate 2 (refine DA [0,1,2,3,4,5,6] TK Q ?_)
      refine d_b [0,1,2,3,4,5,6] TK Q (λq49 hq49=>?_);cases q49
      ·replace hm:=JB hq49 hm;iterate 3 (refine DA [0,1,2,3,4,5,6] TK Q ?_)
       refine BE hm λr50 hr50 hm=>DX [0,1,2,3,4,5,6] Q Q (RN Q Q (SC (.d _) (SC (.d _) (SC (.d _) SN))) (qKS hr50)) ?_;iterate 2 (refine DA [0,1,2,3,4,5,6] TK Q ?_)
       refine DT ?_ (by kernel_rfl);refine TN (WT ?_);exact⟨_,[0,1,2,3,4,5,6],(SJ hm),Q,k0,Q⟩
      replace hm:=JA hq49 hm;iterate 6 (refine DA [0,1,2,3,4,5,6] TK Q ?_)
      refine DT ?_ (by kernel_rfl);refine TN (WT ?_);exact⟨_,[0,1,2,3,4,5,6],(SJ hm),Q,k0,Q⟩
     replace hm:=JA hq46 hm;iterate 15 (refine DA [0,1,2,3,4,5,6] TK Q ?_)
     refine DT ?_ (by kernel_rfl);refine TN (WT ?_);exact⟨_,[0,1,2,3,4,5,6],(SJ hm),Q,k0,Q⟩
    replace hm:=JA hq43 hm;iterate 23 (refine DA [0,1,2,3,4,5,6] TK Q ?_)
    refine DT ?_ (by kernel_rfl);refine TN (WT ?_);exact⟨_,[0,1,2,3,4,5,6],(SJ hm),Q,k0,Q⟩
   refine WN [2,5,7,8,34,35,36,79] Q Q ?_;refine TC _ Q (λh51=>?_) (λh51=>?_)
   ·replace hm:=JA h51 hm;refine RS (SA TK Q (TN (WN [4] Q Q (TR (WB (WR (IE hm λv52 hm hz=>?_)))))));rw [hz33 _ hz] at hm;refine WR (WB (IE hm λv53 hm hz=>?_));rw [hz19 _ hz] at hm;refine WR ?_;obtain rfl:=OJ hm;exact EndsS.one _ Q (.d _) (.refl _)
   replace hm:=JB h51 hm;refine TS (WK (WT (WN [2,5,7,8,34,35,36] Q Q (TG (GE hm λg54 hm=>SX Q Q (aY Q Q Q Q g54) (SA TK Q (TN ?_)))))));refine WT ?_;exact⟨_,[0,1,2,3],(SJ hm),Q,k0,Q⟩
  replace hm:=JF h34 hm;refine aI (WX (IE hm λv55 hm hz=>?_));rw [hz33 _ hz] at hm;refine WX (WH (WT ?_));exact⟨_,[0,1,2,3],(SJ hm),Q,k0,Q⟩
 obtain⟨c14,c15,c16,c17,c18⟩:=j;refine WN [] Q Q (RS (BE hm λr56 hr56 hm=>SX Q Q (RN Q Q SN (tY hr56)) (SA TK Q (TN (WN [4] Q Q (TR ?_))))));obtain rfl:=OJ hm;exact EndsS.one _ Q (.d _) (.refl _)
def fM:Option Nat→Int
 | some i=>i
 | none=>-1
theorem qLV (o:Option Nat):decide (0≤fM o)=o.isSome:=by cases o<;>simp [fM]
theorem zEU (o:Option Nat):decide (fM o < 0)=!o.isSome:=by
 cases o with
 | none=>simp [fM]
 | some i=>show decide ((i:Int) < 0)=false;simp
theorem rN {α:Type} {p:α→Bool} {l:List α} {i:Nat} (h:l.findIdx? p=some i):∃ x,l[i]?=some x∧p x=true∧i < l.length:=by
 rw [List.findIdx?_eq_some_iff_getElem] at h;obtain⟨hlt,hp,_⟩:=h;exact⟨l[i],by simp [hlt],hp,hlt⟩
def bY (l:List Int) (x:Int):Option Nat:=l.findIdx? λy=>y == x
theorem qIT (l:List Int) (x:Int):(bY l x).isSome=decide (x∈l):=by
 unfold bY;rw [List.findIdx?_isSome,Bool.eq_iff_iff,zQU];simp
def mW (n:Nat) (P:Nat→Bool):Bool:=(List.range n).all P
def upTo (P:Nat→Bool) (i:Nat):Prop:=∀ j,j < i→P j=true
theorem allB_iff {P:Nat→Bool} {n:Nat}:mW n P=true↔∀ i,i < n→P i=true:=by
 unfold mW;rw [zQT];simp
def inB (n c:Int):Bool:=decide (0≤n∧n < c)
def qHW (t:Table) (i:Nat):Bool:=decide (0≤t.points.getD i 0∧(0 < i→t.points.getD (i - 1) 0 < t.points.getD i 0)∧0≤t.homes.getD i 0∧t.homes.getD i 0 < t.sections)
def rL (t:Table):Bool:=decide (t.homes.length=t.points.length)&&mW t.points.length (qHW t)
theorem qDK {t:Table} {i:Nat} {p q h:Int} (hp:t.points[i]?=some p) (hq:t.points[i - 1]?=some q) (hh:t.homes[i]?=some h):qHW t i=decide (0≤p∧(0 < i→q < p)∧0≤h∧h < t.sections):=by
 simp only [qHW,zQD,hp,hq,hh,Option.getD_some]
def qQF (t:Table) (l:List Setting) (i:Nat):Bool:=decide ((bY t.points (l.getD i ⟨0,0⟩).el).isSome=true∧1≤(l.getD i ⟨0,0⟩).pos∧(l.getD i ⟨0,0⟩).pos≤2∧(0 < i→(l.getD (i - 1) ⟨0,0⟩).el < (l.getD i ⟨0,0⟩).el))
def iW (t:Table) (l:List Setting):Bool:=mW l.length (qQF t l)
theorem qAX {t:Table} {l:List Setting} {i:Nat} {x y:Setting} (hx:l[i]?=some x) (hy:l[i - 1]?=some y):qQF t l i=decide ((bY t.points x.el).isSome=true∧1≤x.pos∧x.pos≤2∧(0 < i→y.el < x.el)):=by
 simp only [qQF,zQD,hx,hy,Option.getD_some]
def mQ (a b:List Setting):Bool:=a.all λx=>b.all λy=>!(decide (x.el=y.el)&&!decide (x.pos=y.pos))
def zCK (t:Table) (l:List Int) (i:Nat):Bool:=inB (l.getD i 0) t.sections&&!decide (l.getD i 0∈l.take i)
def qQH (t:Table) (l:List Int):Bool:=mW l.length (zCK t l)
theorem qAY {t:Table} {l:List Int} {i:Nat} {s:Int} (hs:l[i]?=some s):zCK t l i=(inB s t.sections&&!decide (s∈l.take i)):=by
 simp only [zCK,zQD,hs,Option.getD_some]
def qXW (t:Table) (r:Route):Bool:=inB r.entry t.signals&&decide (-1≤r.exit∧r.exit < t.signals)&&decide (1≤r.path.length∧r.path.length≤12)
def lP (t:Table) (r:Route):Bool:=qXW t r&&decide (0 < r.sections.length)&&qQH t (r.sections++r.overSections)&&inB r.approach t.sections&&decide (1≤r.length)
def qS (t:Table) (r:Route):Bool:=iW t r.points&&iW t r.overPoints&&iW t r.flank
def tW (r:Route):Bool:=mQ r.points r.overPoints&&mQ r.points r.flank&&mQ r.overPoints r.flank
def qLM (l:List Route) (i:Nat):Bool:=(l[i]?).all λr=>!((l.take i).any λq=>decide (q.name=r.name))
def qID (l:List Route):Bool:=mW l.length (qLM l)
theorem qRL {l:List Route} {i:Nat} {r:Route} (hr:l[i]?=some r):qLM l i=!((l.take i).any λq=>decide (q.name=r.name)):=by simp only [qLM,hr,Option.all_some]
def qOI (t:Table):Bool:=decide (t.routes.length≤48∧t.points.length≤32∧0≤t.sections∧t.sections≤24∧0≤t.signals∧t.signals≤20)
def dQ (t:Table):Int:=
 if qOI t=false then 2
 else if rL t=false then 1
 else if t.routes.all (λr=>lP t r&&qS t r)=false then 1
 else if t.routes.all tW=false then 10
 else if qID t.routes=false then 8
 else 0
section chk
variable {t:Table}
theorem zBB (h:qOI t=false):dQ t=2:=by simp [dQ,h]
theorem qPE (h1:qOI t=true) (h:rL t=false):dQ t=1:=by simp [dQ,h1,h]
end chk
def oL (l:List Int) (i:Nat):List Bool:=(List.range 24).map λ(j:Nat)=>decide ((j:Int)∈l.take i)
theorem qPV (l:List Int):oL l 0=List.replicate 24 false:=by simp [oL,List.map_const']
theorem qKC (l:List Int) (i:Nat):(oL l i).length=24:=by simp [oL]
theorem qUD (l:List Int) (i:Nat) {s:Int} (h0:0≤s) (h1:s < 24):(oL l i)[s.toNat]?=some (decide (s∈l.take i)):=by
 have:s.toNat < 24:=by omega
 simp [oL,this,Int.toNat_of_nonneg h0]
theorem qUC {l:List Int} {i:Nat} {s:Int} (hs:l[i]?=some s) (h0:0≤s) (h1:s < 24):(oL l i).set s.toNat true=oL l (i+1):=by
 apply List.ext_getElem?;intro j;by_cases hj:j < 24
 ·have e1 : ∀ k, (oL l k)[j]? = some (decide ((j : Int) ∈ l.take k)) := fun k => by simp [oL, hj]
  rw [List.getElem?_set,e1,e1,List.take_add_one,hs];split
  ·rename_i e;rw [if_pos (by rw [qKC];omega)];have:(j:Int)=s:=by omega
   simp [this]
  rename_i e;have:¬ (j:Int)=s:=by omega
  simp [this]
 rw [List.getElem?_eq_none (by simp [oL];omega),List.getElem?_eq_none (by simp [oL];omega)]
def iN (l:List Route) (i:Nat):List (ByteArray×Bool):=(l.take i).map λr=>(r.name,true)
theorem qOA (l:List Route):iN l 0=[]:=by simp [iN]
theorem qBM {l:List Route} {i:Nat} {r:Route} (hr:l[i]?=some r):iN l i++[(r.name,true)]=iN l (i+1):=by
 unfold iN;rw [List.take_add_one,hr];simp
theorem qKO (l:List Route) (i:Nat) (s:ByteArray):(match jP (iN l i) s with|some b=>D.bool b|none=>D.bool false)=D.bool ((l.take i).any λq=>decide (q.name=s)):=by
 unfold iN
 induction l.take i with
 | nil=>rfl
 | cons x r ih=>
  simp only [List.map_cons,List.any_cons,jP,List.find?_cons]
  cases h:decide (x.name=s) with
  | true=>simp
  | false=>simpa [jP] using ih
theorem qOB {l:List Route} {i:Nat} {s:ByteArray} (h:((l.take i).any λq=>decide (q.name=s))=false):jP (iN l i) s=none:=by
 unfold iN jP;rw [Option.map_eq_none_iff,List.find?_eq_none];intro x hx;simp only [List.mem_map] at hx;obtain⟨r,hr,rfl⟩:=hx;rw [List.any_eq_false] at h;simpa using h r hr
theorem zT {l:List Route}:∀ {i:Nat},upTo (qLM l) i→((iN l i).map (·.1)).Nodup
 | 0,_=>by simp [iN]
 | i+1,h=>by
  have ih:=zT (i:=i) λj hj=>h j (by omega)
  cases hr:l[i]? with
  | none=>unfold iN at *; rw [List.take_add_one,hr];simpa using ih
  | some r=>
   have hn:=h i (by omega);rw [qRL hr] at hn;rw [← qBM hr,List.map_append,List.nodup_append];refine⟨ih,by simp,λa ha b hb e=>?_⟩;simp only [List.map_cons,List.map_nil,List.mem_singleton] at hb;subst hb;subst e;unfold iN at ha;simp only [List.map_map,List.mem_map,Function.comp_apply] at ha;obtain⟨q,hq,he⟩:=ha;simp only [Bool.not_eq_true',List.any_eq_false] at hn;exact hn q hq (by simp [he])
def bT (x:RouteState) (n:Int):Bool:=
 if x.state=0∨x.state=1∨x.state=2 then decide (x.rel=0∧x.timer=0)
 else if x.state=3 then decide (0≤x.rel∧x.rel < n∧(x.timer=0∨(x.rel=n - 1∧0 < x.timer∧x.timer < 4)))
 else if x.state=4 then decide (0≤x.rel∧x.rel < n∧0≤x.timer∧x.timer < 12)
 else false
theorem tX {x:RouteState} {n:Int} (h:x.state=0∨x.state=1∨x.state=2):bT x n=decide (x.rel=0∧x.timer=0):=by unfold bT;rw [if_pos h]
theorem sG {x:RouteState} {n:Int} (h:x.state=3):bT x n=decide (0≤x.rel∧x.rel < n∧(x.timer=0∨(x.rel=n - 1∧0 < x.timer∧x.timer < 4))):=by unfold bT;rw [if_neg (by omega),if_pos h]
theorem sH {x:RouteState} {n:Int} (h:x.state=4):bT x n=decide (0≤x.rel∧x.rel < n∧0≤x.timer∧x.timer < 12):=by unfold bT;rw [if_neg (by omega),if_neg (by omega),if_pos h]
theorem qNF {x:RouteState} {n:Int} (h:¬ (x.state=0∨x.state=1∨x.state=2)) (h3:¬ x.state=3) (h4:¬ x.state=4):bT x n=false:=by unfold bT;rw [if_neg h,if_neg h3,if_neg h4]
def jQ (t:Table) (s:Inter) (i:Nat):Bool:=(s.routes[i]?).all λx=>(t.routes[i]?).all λr=>bT x r.sections.length
def qFU (p:Int):Bool:=decide (p=1∨p=2)
def fN (t:Table) (s:Inter):Bool:=decide (dQ t=0∧s.routes.length=t.routes.length∧s.lies.length=t.points.length)&&mW s.routes.length (jQ t s)&&s.lies.all qFU
theorem iJ {t:Table} {s:Inter} {i:Nat} {x:RouteState} {r:Route} (hx:s.routes[i]?=some x) (hr:t.routes[i]?=some r):jQ t s i=bT x r.sections.length:=by simp only [jQ,hx,hr,Option.all_some]
theorem fitsB_iff {t:Table} {s:Inter}:fN t s=true↔dQ t=0∧s.routes.length=t.routes.length∧s.lies.length=t.points.length∧(∀ i,i < s.routes.length→jQ t s i=true)∧∀ p∈s.lies,qFU p=true:=by
 unfold fN;rw [zQA,zQA,decide_eq_true_eq,allB_iff,zQT];constructor
 ·rintro⟨⟨⟨h1,h2,h3⟩,h4⟩,h5⟩;exact⟨h1,h2,h3,h4,h5⟩
 rintro⟨h1,h2,h3,h4,h5⟩;exact⟨⟨⟨h1,h2,h3⟩,h4⟩,h5⟩
def jJ (r:Route) (x:RouteState):List Int:=if x.state=0 then [] else r.sections.drop x.rel.toNat
def lF (r:Route) (x:RouteState):List Int:=if x.state=0 then [] else r.overSections
def qIK (f:Route→RouteState→List Int) (t:Table) (s:Inter) (n:Int):List Int:=
 if fN t s=true∧0≤n then match t.routes[n.toNat]?,s.routes[n.toNat]? with|some r,some x=>f r x|_,_=>[] else []
def qEU:=qIK jJ
theorem zEK {f:Route→RouteState→List Int} {t:Table} {s:Inter} {n:Int} (h:n < 0∨(t.routes.length:Int)≤n∨fN t s=false):qIK f t s n=[]:=by
 unfold qIK;split
 ·rename_i h1
  rw [List.getElem?_eq_none (l := t.routes) (by
   rcases h with h | h | h
   ·omega
   ·omega
   rw [h] at h1; exact absurd h1.1 (by decide))]
 rfl
theorem qRU {f:Route→RouteState→List Int} {t:Table} {s:Inter} {i:Nat} {r:Route} {x:RouteState} (h:fN t s=true) (hr:t.routes[i]?=some r) (hx:s.routes[i]?=some x):qIK f t s (i:Int)=f r x:=by
 unfold qIK;rw [if_pos ⟨h,by omega⟩];simp [hr,hx]
theorem qAP {n:Nat} (h:n≤reachBytes):n≤140737488351232:=h
theorem oS {i n:Nat} (h:i < n):((i:Int) < (n:Int))=True:=by simp [h]
abbrev Cnt {α:Type} (l:List α):Prop:=l.length≤9223372036854775807
theorem xW (l:List Int) (x:Int) (h:Cnt l):dO l x=some (fM (bY l x)):=by
 unfold dO;rw [qDY l (λy=>y == x) (λi=>.inr (i:Int)) (.inl ()) h]
 ·unfold bY;cases l.findIdx? (λy=>y == x)<;>rfl
 ·intro i e he;have hi:=(zQQ.1 he).1;simp only [oS hi,if_true,aG he];by_cases hx:x=e
  ·simp [hx]
  have : ¬ (e == x) = true := by simp; exact fun q => hx q.symm
  simp [hx,this,aO hi h]
 simp
theorem mR (t:Table) (x:Int) (h:Cnt t.points):eK t x=some (fM (bY t.points x)):=by
 simp [eK,xW _ _ h]
theorem mN (l:List Int) (x:Int) (h:Cnt l):bP l x=some (decide (x∈l)):=by
 simp only [bP,xW l x h,aA,Option.some.injEq];rw [qLV,qIT]
theorem yJ (n c:Int):dV n c=some (inB n c):=by simp [dV,inB]
theorem nZ (n:Nat) (P:Nat→Bool):((List.range n).any λi=>!P i)=!mW n P:=by simp [mW,List.not_all_eq_any_not]
theorem iL {α:Type} (l:List α) (P:α→Bool):(l.any λi=>!P i)=!l.all P:=by simp [List.not_all_eq_any_not]
theorem qHV (t:Table) (h:Cnt t.points):jW t=some (rL t):=by
 unfold jW rL;by_cases e:t.homes.length=t.points.length
 ·rw [if_pos (by rw [e]), lL t.points.length (fun i => !qHW t i) (.inr false) (.inl ()) h, nZ]
  ·simp only [e,decide_true,Bool.true_and];cases mW t.points.length (qHW t)<;>rfl
  ·intro i hi;obtain⟨p,hp⟩:=sR hi;obtain⟨q,hq⟩:=sR (xs:=t.points) (i:=i - 1) (by omega);obtain⟨hm,hh⟩:=sR (xs:=t.homes) (i:=i) (by omega);simp only [oS hi,if_true,aG hp,aG hh,yJ,aA];rw [qDK hp hq hh];by_cases h0:0 < i
   ·have e1 : ((i : Int) - 1) = ((i - 1 : Nat) : Int) := by omega
    have e2:I64 ((i - 1:Nat):Int):=by unfold I64;omega
    have e3:(0:Int) < (i:Int):=by omega
    simp only [e1,aB e2,aG hq,e3,if_true];simp only [rW,aA,aB (aO hi h),eP]
    grind [inB]
   have e3 : ¬ (0 : Int) < (i : Int) := by omega
   simp only [e3,if_false,rW,aA,aB (aO hi h),eP]
   grind [inB]
  simp
 rw [if_neg (by omega)];simp [e]
theorem pL (t:Table) (l:List Setting) (ht:Cnt t.points) (h:Cnt l):dM t l=some (iW t l):=by
 unfold dM iW;rw [lL l.length (λi=>!qQF t l i) (.inr false) (.inl ()) h,nZ]
 ·cases mW l.length (qQF t l)<;>rfl
 ·intro i hi;obtain⟨x,hx⟩:=sR hi;obtain⟨y,hy⟩:=sR (xs:=l) (i:=i - 1) (by omega);simp only [oS hi,if_true,aG hx,mR _ _ ht,aA,zEU];rw [qAX hx hy];by_cases h0:0 < i
  ·have e1 : ((i : Int) - 1) = ((i - 1 : Nat) : Int) := by omega
   have e2:I64 ((i - 1:Nat):Int):=by unfold I64;omega
   have e3:(0:Int) < (i:Int):=by omega
   simp only [e1,aB e2,aG hy,e3,if_true,rW,aA,aB (aO hi h),eP]
   grind
  have e3 : ¬ (0 : Int) < (i : Int) := by omega
  simp only [e3,if_false,rW,aA,aB (aO hi h),eP]
  grind
 simp
theorem qMJ (a b:List Setting):(a.any λx=>b.any λy=>decide (x.el=y.el)&&!decide (x.pos=y.pos))=!mQ a b:=by
 unfold mQ;rw [List.not_all_eq_any_not]
 congr 1
 funext x
 rw [List.not_all_eq_any_not];simp
theorem qCP (a b:List Setting) (ha:Cnt a) (hb:Cnt b):eU a b=some (mQ a b):=by
 unfold eU;rw [fE a (λx=>b.any λy=>decide (x.el=y.el)&&!decide (x.pos=y.pos)) (.inr false) (.inl ()) ha,qMJ]
 ·cases mQ a b<;>rfl
 ·intro i x hx;have hi:=(zQQ.1 hx).1;simp only [oS hi,if_true,aG hx];rw [fE b (λy=>decide (x.el=y.el)&&!decide (x.pos=y.pos)) (.inr (.inr (.inr false))) (.inl ()) hb]
  ·simp only [aB (aO hi ha)];split<;>rfl
  ·intro j y hy;have hj:=(zQQ.1 hy).1;simp only [oS hj,if_true,aG hy,aB (aO hj hb),eP]
  simp
 simp
structure Short (r:Route):Prop where
 secs:r.sections.length+r.overSections.length≤2000000
 points:r.points.length≤2000000
 over:r.overPoints.length≤2000000
 flank:r.flank.length≤2000000
structure TOk (t:Table):Prop where
 routes:t.routes.length≤2000000
 points:t.points.length≤2000000
 each:∀ r∈t.routes,Short r
theorem yZ (xss:List (List Int)) (h:xss.length≤1000∧xss.flatten.length≤1000000000):gA xss=some xss.flatten:=aB h
theorem qKE (t:Table) (r:Route) (hs:t.sections≤24) (h:Short r):iV t r=some (lP t r):=by
 have h1:=h.secs;unfold iV;rw [yZ _ (by simp;omega)];have hcat:([r.sections,r.overSections]:List (List Int)).flatten=r.sections++r.overSections:=by simp
 simp only [hcat,aA,yJ,rW];generalize hl:r.sections++r.overSections=l;have hln:l.length≤2000000:=by rw [← hl];simp;omega
 rw [qDZ l.length (oL l) (λi=>!zCK t l i) (.inr false) (.inl (oL l l.length)) (qPV l).symm (by omega),nZ]
 ·unfold lP qXW qQH;rw [hl];clear hcat hl;cases mW l.length (zCK t l)
  ·simp only [Bool.not_false,if_true,jV,xU,Option.some.injEq];rw [Bool.eq_iff_iff];simp only [qJO,zQA,decide_eq_true_eq,Bool.or_eq_true,inB,Bool.not_eq_true',decide_eq_false_iff_not]
   grind
  simp only [Bool.not_true,Bool.false_eq_true,if_false,dB,xU,Option.some.injEq];rw [Bool.eq_iff_iff];simp only [qJO,zQA,decide_eq_true_eq,Bool.or_eq_true,inB,Bool.not_eq_true',decide_eq_false_iff_not]
  grind
 ·intro i hi _;obtain⟨x,hx⟩:=sR hi;simp only [oS hi,if_true,aG hx];rw [qAY hx];by_cases hin:inB x t.sections=true
  ·have hx0 : 0 ≤ x ∧ x < 24 := by unfold inB at hin; simp at hin; omega
   have hg:=qUD l i hx0.1 hx0.2;simp only [hin,aB hx0.2,oX hx0.1 hg,aA,Bool.not_true,Bool.true_and,Bool.not_not,aB (aO hi (by omega)),qUC hx hx0.1 hx0.2,eP];by_cases hm:x∈l.take i<;>simp [hm]
  have hin : inB x t.sections = false := by simpa using hin
  simp [hin]
 intro _;simp
theorem zCZ {α β:Type} [DecidableEq α] {fs:List (α×β)} {k:α} {v:β} (h:jP fs k=none):qUY fs k v=fs++[(k,v)]:=by
 unfold qUY
 have:(fs.findIdx? λx=>decide (x.1=k))=none:=by
  unfold jP at h;rw [Option.map_eq_none_iff,List.find?_eq_none] at h;rw [List.findIdx?_eq_none_iff];intro x hx;simpa using h x hx
 rw [this]
theorem qRR (t : Table) (h : t.routes.length ≤ 2000000) (k : List (ByteArray × Bool) → Option Int) : dN (bB (fun (x, b) =>
     if x < (t.routes.length : Int) then
      aU t.routes x fun e =>
      aD (b.map (·.1)).Nodup <|
      if (((jP b e.name).getD false)) = true then
       aN (aN (some (8 : Int)))
      else
       aD (b.map (·.1)).Nodup <|
       aD (I64 (x + (1 : Int))) <|
       some (.inl ((x + (1 : Int)), (qUY b e.name true)))
     else
      aN (some (.inl b))) ((0 : Int), ([] : List (ByteArray × Bool)))) k = if qID t.routes = true then k (iN t.routes t.routes.length) else some 8 := by
 rw [qDZ t.routes.length (iN t.routes) (λi=>!qLM t.routes i) (.inr 8) (.inl (iN t.routes t.routes.length)) (qOA _).symm (by omega),nZ]
 ·unfold qID;cases mW t.routes.length (qLM t.routes)<;>rfl
 ·intro i hi hj;obtain⟨x,hx⟩:=sR hi;have hnd:((iN t.routes i).map (·.1)).Nodup:=zT λj hjj=>by have:=hj j hjj;simpa using this
  simp only [oS hi,if_true,aG hx,aB hnd,aB (aO hi (by omega))];rw [qRL hx,Bool.not_not];have ha:=qKO t.routes i x.name
  cases hc:((t.routes.take i).any λq=>decide (q.name=x.name)) with
  | true=>
   rw [hc] at ha
   have:((jP (iN t.routes i) x.name).getD false)=true:=by
    cases e:jP (iN t.routes i) x.name with
    | none=>rw [e] at ha;simp at ha
    | some b=>rw [e] at ha;simp at ha;simp [ha]
   simp [this]
  | false=>
   have hn:=qOB hc;simp [hn,zCZ hn,qBM hx]
 intro hj;simp
theorem qRQ (l : List Route) (P : Route → Bool) (v : Int) (h : l.length ≤ 2000000) (g : Route → Option Bool) (hg : ∀ r ∈ l, g r = some (P r)) (k : Unit → Option Int) : dN (bB (fun x =>
     if x < (l.length : Int) then
      aU l x fun e =>
      aC (g e) fun r =>
      if (!(r)) = true then
       aN (aN (some v))
      else
       aD (I64 (x + (1 : Int))) <|
       some (.inl (x + (1 : Int)))
     else
      aN (some (.inl ()))) (0 : Int)) k = if l.all P = true then k () else some v := by
 rw [fE l (λr=>!P r) (.inr v) (.inl ()) (by omega),iL]
 ·cases l.all P<;>rfl
 ·intro i x hx;have hi:=(zQQ.1 hx).1;simp only [oS hi,if_true,aG hx,hg x (zQM hx),aA,aB (aO hi (by omega)),eP]
 simp
theorem qBO (l : List Route) (P : Route → Bool) (v : Int) (h : l.length ≤ 2000000) (g : Route → Option Bool) (hg : ∀ r ∈ l, g r = some (!P r)) (k : Unit → Option Int) : dN (bB (fun x =>
     if x < (l.length : Int) then
      aU l x fun e =>
      aC (g e) fun r =>
      if r = true then
       aN (aN (some v))
      else
       aD (I64 (x + (1 : Int))) <|
       some (.inl (x + (1 : Int)))
     else
      aN (some (.inl ()))) (0 : Int)) k = if l.all P = true then k () else some v := by
 rw [fE l (λr=>!P r) (.inr v) (.inl ()) (by omega),iL]
 ·cases l.all P<;>rfl
 ·intro i x hx;have hi:=(zQQ.1 hx).1;simp only [oS hi,if_true,aG hx,hg x (zQM hx),aA,aB (aO hi (by omega)),eP]
 simp
theorem qZF (t:Table) (r:Route) (ht:Cnt t.points) (h:Short r):(aC (dM t r.points) λa=>if (!(a))=true then some true else aC (dM t r.overPoints) λb=>if (!(b))=true then some true else aC (dM t r.flank) λc=>some (!(c)))=some (!qS t r):=by
 have h1:=h.points;have h2:=h.over;have h3:=h.flank;rw [pL t _ ht (by omega),pL t _ ht (by omega),pL t _ ht (by omega)];unfold qS;cases iW t r.points<;>cases iW t r.overPoints<;>cases iW t r.flank<;>rfl
theorem qWK (r:Route) (h:Short r):(aC (eU r.points r.overPoints) λa=>if (!(a))=true then some true else aC (eU r.points r.flank) λb=>if (!(b))=true then some true else aC (eU r.overPoints r.flank) λc=>some (!(c)))=some (!tW r):=by
 have h1:=h.points;have h2:=h.over;have h3:=h.flank;rw [qCP _ _ (by omega) (by omega),qCP _ _ (by omega) (by omega),qCP _ _ (by omega) (by omega)];unfold tW;cases mQ r.points r.overPoints<;>cases mQ r.points r.flank<;>cases mQ r.overPoints r.flank<;>rfl
theorem zBI (l:List Route) (p q:Route→Bool):l.all (λr=>p r&&q r)=(l.all p&&l.all q):=by
 rw [Bool.eq_iff_iff];simp only [zQT,zQA];exact⟨λh=>⟨λx hx=>(h x hx).1,λx hx=>(h x hx).2⟩,λh x hx=>⟨h.1 x hx,h.2 x hx⟩⟩
theorem tB (t:Table) (h:TOk t):gW t=some (dQ t):=by
 have hp:=h.points;have hr:=h.routes;unfold gW;by_cases hl:qOI t=true
 ·have hs : t.sections ≤ 24 := by unfold qOI at hl; simp at hl; omega
  have hc : (if (48 : Int) < (t.routes.length : Int) then some true
   else if (32 : Int) < (t.points.length : Int) then some true
   else aC (dV t.sections (25 : Int)) fun r5 => if (!(r5)) = true then some true else aC (dV t.signals (21 : Int)) fun r7 => some (!(r7))) = some false := by
   simp only [yJ,aA];unfold qOI at hl;simp only [decide_eq_true_eq] at hl;rw [if_neg (by omega),if_neg (by omega),if_neg (by unfold inB;simp;omega)];simp [inB];omega
  rw [hc];simp only [aA,qHV t (by omega)];by_cases hpb:rL t=true
  ·simp only [hpb];simp only [Bool.not_true,Bool.false_eq_true,if_false];rw [qRQ t.routes (lP t) 1 hr (iV t) (λr hm=>qKE t r hs (h.each r hm))];rw [qBO t.routes (qS t) 1 hr _ (λr hm=>qZF t r (by omega) (h.each r hm)),qBO t.routes tW 10 hr _ (λr hm=>qWK r (h.each r hm)),qRR t hr];unfold dQ;rw [zBI];simp only [hl,hpb];cases t.routes.all (lP t)<;>cases t.routes.all (qS t)<;>cases t.routes.all tW<;>cases qID t.routes<;>rfl
  rw [qPE hl (by simpa using hpb)];simp [hpb]
 rw [zBB (by simpa using hl)]
 have hc : (if (48 : Int) < (t.routes.length : Int) then some true
  else if (32 : Int) < (t.points.length : Int) then some true
  else aC (dV t.sections (25 : Int)) fun r5 => if (!(r5)) = true then some true else aC (dV t.signals (21 : Int)) fun r7 => some (!(r7))) = some true := by
  simp only [yJ,aA];unfold qOI at hl;simp only [decide_eq_true_eq] at hl
  grind [inB]
 rw [hc];rfl
theorem qNG (x:RouteState) (n:Int) (hn:0≤n∧n≤2000000):lG x n=some (bT x n):=by
 unfold lG;simp only [aB (show I64 (n - 1) by unfold I64;omega),rW,aA];simp only [xU,Option.some.injEq];rw [Bool.eq_iff_iff];unfold bT;simp only [qJO,zQA,decide_eq_true_eq,Bool.or_eq_true,and_true,Bool.false_eq_true,and_false,or_false];rcases Decidable.em (x.state=0) with s0|s0<;>rcases Decidable.em (x.state=1) with s1|s1<;>rcases Decidable.em (x.state=2) with s2|s2<;>rcases Decidable.em (x.state=3) with s3|s3<;>rcases Decidable.em (x.state=4) with s4|s4<;>first|omega|(simp only [s0,s1,s2,s3,s4,if_true,if_false,true_and,false_and,or_false,false_or,not_true,not_false_iff,and_true,and_false,true_or,or_true];omega)
theorem qYX (t : Table) (s : Inter) (h : TOk t) (hlen : s.routes.length = t.routes.length) (g : RouteState → Int → Option Bool) (hg : ∀ x n, 0 ≤ n ∧ n ≤ 2000000 → g x n = some (bT x n)) (k : Unit → Option Bool) : dN (
   bB (fun x9 =>
    if x9 < (s.routes.length : Int) then
     aU s.routes x9 fun e12 =>
     aU t.routes x9 fun e13 =>
     aC (g e12 (e13.sections.length : Int)) fun r14 =>
     if (!(r14)) = true then
      aN (
       aN (
        some false))
     else
      aD (I64 (x9 + (1 : Int))) <|
      some (.inl (x9 + (1 : Int)))
    else
     aN (
      some (.inl ()))) (0 : Int)) k = if mW s.routes.length (jQ t s) = true then k () else some false := by
 have hr:=h.routes;rw [lL s.routes.length (λi=>!jQ t s i) (.inr false) (.inl ()) (by omega),nZ]
 ·cases mW s.routes.length (jQ t s)<;>rfl
 ·intro i hi;obtain⟨x,hx⟩:=sR hi;obtain⟨r,hrr⟩:=sR (xs:=t.routes) (i:=i) (by omega);have hs:=(h.each r (zQM hrr)).secs;simp only [oS hi,if_true,aG hx,aG hrr,hg x _ (show 0≤(r.sections.length:Int)∧(r.sections.length:Int)≤2000000 by omega),aA,iJ hx hrr,aB (aO hi (by omega)),eP]
 simp
theorem zEM (l : List Int) (h : Cnt l) (k : Unit → Option Bool) : dN (
   bB (fun x22 =>
    if x22 < (l.length : Int) then
     aU l x22 fun e25 =>
     if ((!(decide (e25 = (1 : Int)))) && (!(decide (e25 = (2 : Int))))) = true then
      aN (
       aN (
        some false))
     else
      aD (I64 (x22 + (1 : Int))) <|
      some (.inl (x22 + (1 : Int)))
    else
     aN (
      some (.inl ()))) (0 : Int)) k = if l.all qFU = true then k () else some false := by
 rw [fE l (λr=>!qFU r) (.inr false) (.inl ()) h,iL]
 ·cases l.all qFU<;>rfl
 ·intro i x hx;have hi:=(zQQ.1 hx).1;simp only [oS hi,if_true,aG hx,aB (aO hi h),eP,qFU];by_cases h1:x=1<;>by_cases h2:x=2<;>simp [h1,h2]
 simp
theorem qLY (t:Table) (s:Inter):(if dQ t=(0:Int) then if (s.routes.length:Int)=(t.routes.length:Int) then some (!(decide ((s.lies.length:Int)=(t.points.length:Int)))) else some true else some true)=some (!decide (dQ t=0∧s.routes.length=t.routes.length∧s.lies.length=t.points.length)):=by
 by_cases h1:dQ t=0<;>by_cases h2:s.routes.length=t.routes.length<;>by_cases h3:s.lies.length=t.points.length<;>simp [h1,h2,h3]<;>omega
theorem qXY (t:Table) (s:Inter) (h:TOk t):nR t s=some (fN t s):=by
 have hp:=h.points;unfold nR fN;simp only [tB t h,aA,qLY];by_cases hd:dQ t=0∧s.routes.length=t.routes.length∧s.lies.length=t.points.length
 ·rw [decide_eq_true hd];simp only [Bool.not_true,Bool.false_eq_true,if_false];rw [qYX t s h hd.2.1 _ (λx n hn=>qNG x n hn),zEM s.lies (by unfold Cnt;omega)];cases mW s.routes.length (jQ t s)<;>cases s.lies.all qFU<;>rfl
 simp [hd]
theorem zFA {t:Table} {s:Inter} (h:fN t s=true) {i:Nat} (hi:i < t.routes.length):∃ r x,t.routes[i]?=some r∧s.routes[i]?=some x∧bT x r.sections.length=true:=by
 obtain⟨_,h2,_,h4,_⟩:=fitsB_iff.1 h;obtain⟨r,hr⟩:=sR hi;obtain⟨x,hx⟩:=sR (xs:=s.routes) (i:=i) (by omega);exact⟨r,x,hr,hx,by rw [← iJ hx hr];exact h4 i (by omega)⟩
theorem qBC {x:RouteState} {n:Nat} (h:bT x n=true):0≤x.rel∧x.rel≤n:=by
 unfold bT at h;split at h
 ·simp at h;omega
 split at h
 ·simp at h;omega
 split at h
 ·simp at h;omega
 cases h
theorem uX (l:List Int) (h:l.length≤1000000000):cT l=some l:=by
 unfold cT;rw [aB (by simpa using h)];cases l<;>simp [qKM]
theorem qRP (r:Route) (x:RouteState) (h:Short r) (hx:bT x r.sections.length=true):pO r x=some (jJ r x):=by
 have hr:=qBC hx;have hs:=h.secs;unfold pO jJ;split
 ·rfl
 rw [aB ⟨hr.1,hr.2,Int.le_refl _⟩];have e:x.rel=((x.rel.toNat:Nat):Int):=by omega
 rw [e,qPW];simp only [Int.toNat_natCast];rw [uX _ (by simp;omega)];rfl
theorem zEJ (r:Route) (x:RouteState) (h:Short r):sK r x=some (lF r x):=by
 have hs:=h.secs;unfold sK lF;split
 ·rfl
 rw [uX _ (by omega)];rfl
theorem zAK (t:Table) (s:Inter) (n:Int) (h:TOk t):(if n < (0:Int) then some true else if (t.routes.length:Int)≤n then some true else aC (nR t s) λr5=>some (!(r5)))=some (!decide (0≤n∧n < t.routes.length∧fN t s=true)):=by
 simp only [qXY t s h,aA];by_cases h1:n < 0
 ·rw [if_pos h1];simp;omega
 by_cases h2:(t.routes.length:Int)≤n
 ·rw [if_neg h1,if_pos h2];simp;omega
 rw [if_neg h1,if_neg h2];cases fN t s<;>simp<;>omega
theorem zNN (t:Table) (s:Inter) (n:Int) (h:TOk t):sM t s n=some (qEU t s n):=by
 unfold sM;simp only [zAK t s n h,aA];by_cases hd:0≤n∧n < t.routes.length∧fN t s=true
 ·obtain⟨i,rfl⟩:=Int.eq_ofNat_of_zero_le hd.1;obtain⟨r,x,hr,hx,hf⟩:=zFA hd.2.2 (i:=i) (by omega);simp only [hd,decide_true,Bool.not_true,Bool.false_eq_true,if_false,and_self,aG hr,aG hx];rw [qRP r x (h.each r (zQM hr)) hf];unfold qEU;rw [qRU hd.2.2 hr hx];rfl
 simp only [hd,decide_false,Bool.not_false,if_true];unfold qEU
 rw [zEK (by
  by_cases h1 : n < 0
  ·exact .inl h1
  by_cases h2 : (t.routes.length : Int) ≤ n
  ·exact .inr (.inl h2)
  refine .inr (.inr ?_)
  cases e : fN t s with
  | false => rfl
  | true => exact absurd ⟨by omega, by omega, e⟩ hd)]
theorem zAL (f:Route→RouteState→List Int) (hf:∀ r x,(f r x).length≤r.sections.length+r.overSections.length) (t:Table) (s:Inter) (n:Int) (h:TOk t):(qIK f t s n).length≤2000000:=by
 unfold qIK;split
 ·split
  ·rename_i r x hr hx;have:=(h.each r (zQM hr)).secs;have:=hf r x;omega
  simp
 simp
theorem qZZ (t:Table) (s:Inter) (n:Int) (h:TOk t):(qEU t s n).length≤2000000:=zAL jJ (λr x=>by unfold jJ;split<;>simp<;>omega) t s n h
def ltS (x y:Setting):Bool:=decide (x.el < y.el)||(decide (x.el=y.el)&&decide (x.pos < y.pos))
theorem qBN {x y:Setting}:ltS x y=true↔x.el < y.el∨x.el=y.el∧x.pos < y.pos:=by simp [ltS]
theorem qII (x:Setting):ltS x x=false:=by simp [ltS]
theorem qLO {x y z:Setting} (h1:ltS x y=true) (h2:ltS y z=true):ltS x z=true:=by rw [qBN] at *; omega
theorem zAH {x y:Setting} (h1:ltS x y=true) (h2:ltS y x=true):False:=by rw [qBN] at *; omega
theorem qJD {x y:Setting} (h1:x.el=y.el) (h2:x.pos=y.pos):x=y:=by
 obtain⟨a,b⟩:=x;obtain⟨c,d⟩:=y;simp_all
theorem qOD {x y:Setting} (h1:ltS x y=false) (h2:ltS y x=false):x=y:=by
 have h1':¬ (x.el < y.el∨x.el=y.el∧x.pos < y.pos):=λh=>by rw [← qBN,h1] at h;cases h
 have h2':¬ (y.el < x.el∨y.el=x.el∧y.pos < x.pos):=λh=>by rw [← qBN,h2] at h;cases h
 exact qJD (by omega) (by omega)
def qIS (x:Setting):List Setting→List Setting
 | []=>[x]
 | y :: r=>if ltS x y=true then x :: y :: r else if x=y then y :: r else y :: qIS x r
def eG:List Setting→List Setting
 | []=>[]
 | x :: r=>qIS x (eG r)
abbrev Asc (l:List Setting):Prop:=l.Pairwise (λa b=>ltS a b=true)
theorem insS_mem {s x:Setting}:∀ {l},s∈qIS x l↔s=x∨s∈l
 | []=>by simp [qIS]
 | y :: r=>by
  unfold qIS;split
  ·simp
  split
  ·rename_i e;subst e;simp
  simp only [zQB,insS_mem];grind
theorem ascS_mem {s:Setting}:∀ {l},s∈eG l↔s∈l
 | []=>by simp [eG]
 | x :: r=>by simp [eG,insS_mem,ascS_mem]
theorem qSI (x:Setting):∀ l,Asc l→Asc (qIS x l)
 | [],_=>by simp [qIS]
 | y :: r,h=>by
  have h':=List.pairwise_cons.1 h;unfold qIS;split
  ·rename_i hxy;refine List.pairwise_cons.2 ⟨λb hb=>?_,h⟩;rcases zQB.1 hb with rfl|hb
   ·exact hxy
   exact qLO hxy (h'.1 b hb)
  split
  ·exact h
  rename_i h1 h2;refine List.pairwise_cons.2 ⟨λb hb=>?_,qSI x r h'.2⟩;rcases insS_mem.1 hb with rfl|hb
  ·cases h3:ltS y b with
   | true=>rfl
   | false=>exact absurd (qOD (by simpa using h1) h3) h2
  exact h'.1 b hb
theorem qTR:∀ l,Asc (eG l)
 | []=>.nil
 | x :: r=>qSI x _ (qTR r)
theorem qJU:∀ {l m:List Setting},Asc l→Asc m→(∀ s,s∈l↔s∈m)→l=m
 | [],[],_,_,_=>rfl
 | [],y :: m,_,_,h=>absurd ((h y).2 (List.mem_cons_self ..)) (by simp)
 | x :: l,[],_,_,h=>absurd ((h x).1 (List.mem_cons_self ..)) (by simp)
 | x :: l,y :: m,h1,h2,h=>by
  have h1':=List.pairwise_cons.1 h1;have h2':=List.pairwise_cons.1 h2
  have e:x=y:=by
   rcases zQB.1 ((h x).1 (List.mem_cons_self ..)) with e|hx
   ·exact e
   rcases zQB.1 ((h y).2 (List.mem_cons_self ..)) with e|hy
   ·exact e.symm
   exact (zAH (h2'.1 x hx) (h1'.1 y hy)).elim
  subst e
  have := qJU h1'.2 h2'.2 fun s => ⟨fun hs => by
   rcases zQB.1 ((h s).1 (List.mem_cons_of_mem _ hs)) with e | h3
   ·subst e; have := h1'.1 s hs; rw [qII] at this; cases this
   ·exact h3, fun hs => by
   rcases zQB.1 ((h s).2 (List.mem_cons_of_mem _ hs)) with e | h3
   ·subst e; have := h2'.1 s hs; rw [qII] at this; cases this
   exact h3⟩
  rw [this]
theorem zNI {l m:List Setting} (h:Asc m) (hm:∀ s,s∈m↔s∈l):m=eG l:=qJU h (qTR l) λs=>by rw [hm,ascS_mem]
theorem lJ (l:List Setting):(eG l).length≤l.length:=by
 induction l with
 | nil=>simp [eG]
 | cons x r ih=>
  have:∀ m,(qIS x m).length≤m.length+1:=by
   intro m
   induction m with
   | nil=>simp [qIS]
   | cons y q ih=>unfold qIS;split<;>(try split)<;>simp<;>omega
  have h:=this (eG r);simp only [eG,List.length_cons];omega
theorem qOE (x y:Setting):ltM cX x y=ltS x y:=by
 rw [Bool.eq_iff_iff,qBN];simp only [ltM,sD,Option.getD_some,sgn,decide_eq_true_eq];split<;>split<;>(try split)<;>(try split)<;>omega
def pJ (L:List Setting):Nat→List Setting
 | 0=>[]
 | i+1=>match L[i]? with
  | none=>pJ L i
  | some e=>if i=0∨¬ L[i - 1]?=some e then pJ L i++[e] else pJ L i
theorem qMC (L:List Setting):∀ i,(pJ L i).length≤i
 | 0=>zQW _
 | i+1=>by
  have:=qMC L i;unfold pJ;split
  ·omega
  split
  ·simp;omega
  omega
theorem qSW (L : List Setting) (hs : L.Pairwise (fun a b => ltS b a = false)) : ∀ i, i ≤ L.length → Asc (pJ L i) ∧ ∀ s, s ∈ pJ L i ↔ s ∈ L.take i
 | 0,_=>⟨.nil,λs=>by simp [pJ]⟩
 | i+1,hi=>by
  obtain⟨h1,h2⟩:=qSW L hs i (by omega);have he:L[i]?=some L[i]:=by simp
  rw [List.pairwise_iff_getElem] at hs;have htake:L.take (i+1)=L.take i++[L[i]]:=by rw [List.take_add_one,he];rfl
  unfold pJ;rw [he];simp only;split
  ·rename_i hc;refine⟨List.pairwise_append.2 ⟨h1,by simp,λa ha b hb=>?_⟩,λs=>by rw [htake,zQN,zQN,h2]⟩;simp only [List.mem_singleton] at hb;subst hb;rcases hc with h0|hc
   ·subst h0;simp [pJ] at ha
   have hi0 : i ≠ 0 := fun e => by subst e; simp [pJ] at ha
   obtain⟨j,hj,rfl⟩:=List.mem_take_iff_getElem.1 ((h2 a).1 ha);have e1:L[i - 1]?=some L[i - 1]:=by rw [zQR]
   have hne:L[i - 1]≠L[i]:=λe=>hc (by rw [e1,e])
   have hlt:ltS L[i - 1] L[i]=true:=by
    cases h3:ltS L[i - 1] L[i] with
    | true=>rfl
    | false=>exact absurd (qOD h3 (hs (i - 1) i (by omega) (by omega) (by omega))) hne
   by_cases hj':j=i - 1
   ·subst hj';exact hlt
   have h4 := hs j (i - 1) (by omega) (by omega) (by omega)
   cases h5:ltS L[j] L[i - 1] with
   | true=>exact qLO h5 hlt
   | false=>rw [qOD h5 h4];exact hlt
  rename_i hc;refine⟨h1,λs=>?_⟩;rw [htake,zQN,h2];have hi0:i≠0:=λe=>hc (.inl e)
  have e1:L[i - 1]?=some L[i]:=by
   cases h:decide (L[i - 1]?=some L[i]) with
   | true=>exact of_decide_eq_true h
   | false=>exact absurd (.inr (of_decide_eq_false h)) hc
  have hm:L[i]∈L.take i:=List.mem_take_iff_getElem.2 ⟨i - 1,by omega,by rw [zQR (by omega)] at e1;exact Option.some.inj e1⟩;refine⟨.inl,λh=>?_⟩;rcases h with h|h
  ·exact h
  simp only [List.mem_singleton] at h;subst h;exact hm
abbrev bS (r:Route):List Setting:=r.points++r.overPoints++r.flank
theorem qVX (xss:List (List Setting)) (h:xss.length≤1000∧xss.flatten.length≤1000000000):jG xss=some xss.flatten:=aB h
theorem qH (r:Route) (h:Short r) (ho:∀ s∈bS r,Setting.ok s):dW r=some (eG (bS r)):=by
 have hfl:[r.points,r.overPoints,r.flank].flatten=bS r:=by simp [bS]
 have hlen:(bS r).length≤6000000:=by have:=h.points;have:=h.over;have:=h.flank;simp [bS];omega
 unfold dW;rw [qVX _ ⟨by simp,by rw [hfl];omega⟩,aA,hfl,aB (by omega)];generalize hL:sC cX (bS r)=L;have hLl:L.length=(bS r).length:=by rw [← hL,rG]
 have hmem:∀ s,s∈L↔s∈bS r:=λs=>by rw [← hL];exact (sB _).mem_iff
 have hsort:L.Pairwise (λa b=>ltS b a=false):=by
  rw [← hL];have:=rF oM (bS r);exact this.imp fun {a b} hab=>by rw [← qOE];exact hab
 obtain⟨h1,h2⟩:=qSW L hsort L.length (zQW _);have hfin:pJ L L.length=eG (bS r):=zNI h1 λs=>by rw [h2,List.take_length,hmem]
 rw [fF (b:=([]:List Setting)) (o:=eG (bS r)) L.length (pJ L) rfl (by omega) (λi hi=>?_) (by dsimp only;rw [if_neg (by omega),hfin];rfl)]
 ·rfl
 have he : L[i]? = some L[i] := by simp
 have hg:(pJ L i++[L[i]]).length≤1000000000:=by have:=qMC L i;simp;omega
 dsimp only;rw [if_pos (by omega),aG he]
 have hcond:(if (i:Int)=0 then some true else aD (I64 ((i:Int) - 1)) (aU L ((i:Int) - 1) λe17=>aD (Setting.ok L[i]∧Setting.ok e17) (some (!decide (L[i]=e17)))))=some (decide (i=0∨¬ L[i - 1]?=some L[i])):=by
  by_cases h0:i=0
  ·subst h0;simp
  have e1 : L[i - 1]? = some L[i - 1] := by rw [zQR]
  have e2:((i:Int) - 1)=((i - 1:Nat):Int):=by omega
  rw [if_neg (by omega),aB (by unfold I64;omega),e2,aG e1,aB ⟨ho _ ((hmem _).1 (List.getElem_mem _)),ho _ ((hmem _).1 (List.getElem_mem _))⟩,e1];have e3:(L[i]=L[i - 1])=(L[i - 1]=L[i]):=propext eq_comm;simp only [Option.some.injEq,h0,false_or,e3,decide_not]
 rw [hcond,aA];have hstep:pJ L (i+1)=if i=0∨¬ L[i - 1]?=some L[i] then pJ L i++[L[i]] else pJ L i:=by rw [pJ,he]
 by_cases hc:i=0∨¬ L[i - 1]?=some L[i]
 ·rw [if_pos (by simpa using hc),aB hg,aB (aO (n:=L.length) hi (by omega)),hstep,if_pos hc]
 rw [if_neg (by simpa using hc),aB (aO (n:=L.length) hi (by omega)),hstep,if_neg hc]
theorem qRT {α:Type} {f:Int×List α→Option ((Int×List α) ⊕ List α)} (l:List α) (P:α→Bool) (hn:l.length≤1000000000) (hf:∀ (i:Nat) (e:α) (b:List α),l[i]?=some e→b.length≤i→f ((i:Int),b)=some (.inl ((i:Int)+1,if P e=true then b++[e] else b))) (he:∀ b,f ((l.length:Int),b)=some (.inr b)):bB f (0,[])=some (l.filter P):=by
 refine fF l.length (λi=>(l.take i).filter P) (by simp) (by omega) (λi hi=>?_) (by rw [he];simp);have e1:l[i]?=some l[i]:=by simp
 rw [hf i l[i] _ e1 (Nat.le_trans (List.length_filter_le _ _) (by rw [List.length_take];omega)),List.take_add_one,e1,List.filter_append]
 congr 3
 split
 ·rename_i h;simp [h]
 rename_i h;simp [h]
theorem qRS {α β:Type} {f:Int×List β→Option ((Int×List β) ⊕ List β)} (l:List α) (g:α→β) (b0:List β) (hn:l.length≤1000000000) (hf:∀ (i:Nat) (e:α) (b:List β),l[i]?=some e→b.length=b0.length+i→f ((i:Int),b)=some (.inl ((i:Int)+1,b++[g e]))) (he:∀ b,f ((l.length:Int),b)=some (.inr b)):bB f (0,b0)=some (b0++l.map g):=by
 refine fF l.length (λi=>b0++(l.take i).map g) (by simp) (by omega) (λi hi=>?_) (by rw [he];simp);have e1:l[i]?=some l[i]:=by simp
 rw [hf i l[i] _ e1 (by rw [zQL,zQC,List.length_take,Nat.min_eq_left (by omega)]),List.take_add_one,e1];simp only [Option.toList_some,List.map_append,List.map_cons,List.map_nil,List.append_assoc]
theorem cJ {t:Table} (h:dQ t=0):qOI t=true∧rL t=true∧(∀ r∈t.routes,lP t r=true∧qS t r=true)∧(∀ r∈t.routes,tW r=true)∧qID t.routes=true:=by
 unfold dQ at h;split at h
 ·cases h
 split at h
 ·cases h
 split at h
 ·cases h
 split at h
 ·cases h
 split at h
 ·cases h
 rename_i h1 h2 h3 h4 h5;simp only [Bool.not_eq_false] at h1 h2 h3 h4 h5;rw [zQT] at h3 h4;exact⟨h1,h2,λr hr=>by have:=h3 r hr;rwa [zQA] at this,h4,h5⟩
theorem rQ {t:Table} {l:List Setting} (h:iW t l=true) {s:Setting} (hs:s∈l):(bY t.points s.el).isSome=true∧1≤s.pos∧s.pos≤2:=by
 obtain⟨i,hi,rfl⟩:=List.mem_iff_getElem.1 hs;have h1:=allB_iff.1 h i hi;rw [qAX (x:=l[i]) (y:=l[i - 1]) (by simp) (by rw [zQR])] at h1;have:=of_decide_eq_true h1;exact⟨this.1,this.2.1,this.2.2.1⟩
theorem gB {t:Table} {r:Route} (h:qS t r=true) {s:Setting} (hs:s∈bS r):∃ k,bY t.points s.el=some k∧k < t.points.length:=by
 unfold qS at h;rw [zQA,zQA] at h
 have:(bY t.points s.el).isSome=true:=by
  simp only [bS,zQN] at hs;rcases hs with (hs|hs)|hs
  ·exact (rQ h.1.1 hs).1
  ·exact (rQ h.1.2 hs).1
  exact (rQ h.2 hs).1
 obtain⟨k,hk⟩:=Option.isSome_iff_exists.1 this;exact⟨k,hk,by obtain⟨_,_,_,h⟩:=rN hk;exact h⟩
def SOk (t:Table):Prop:=∀ r∈t.routes,∀ s∈bS r,Setting.ok s
def pP (t:Table) (el:Int):Int:=((bY t.points el).bind (t.homes[·]?)).getD 0
theorem zAU {t:Table} {el:Int} {k:Nat} (h:bY t.points el=some k) {x:Int} (hx:t.homes[k]?=some x):pP t el=x:=by simp [pP,h,hx]
def wD (t:Table) (r:Route) (x:RouteState) (s:Setting):Bool:=!decide (pP t s.el∈r.sections.take x.rel.toNat)
def lT (t:Table) (r:Route) (x:RouteState):List Setting:=if x.state=0 then [] else eG (r.points.filter (wD t r x)++r.overPoints++r.flank)
theorem xX {t:Table} (h:dQ t=0) {el:Int} {k:Nat} (hk:bY t.points el=some k):t.homes[k]?=some (pP t el):=by
 obtain⟨_,h2,_⟩:=cJ h;unfold rL at h2;rw [zQA,decide_eq_true_eq] at h2;obtain⟨_,_,_,hlt⟩:=rN hk;have:t.homes[k]?=some t.homes[k]:=by rw [zQR]
 rw [zAU hk this,this]
theorem qOO (l:List Int) (x:Int) (h:Cnt l):uQ l x=some (decide (x∈l)):=by simp [uQ,mN l x h]
theorem qLS (t:Table) (r:Route) (x:RouteState) (h:TOk t) (ho:SOk t) (hc:dQ t=0) (hr:r∈t.routes) (hx:0≤x.rel∧x.rel≤r.sections.length):oC t r x=some (lT t r x):=by
 have hs:=h.each r hr;obtain⟨_,_,h3,_⟩:=cJ hc;unfold oC lT;by_cases h0:x.state=0
 ·rw [if_pos h0,if_pos h0]
 rw [if_neg h0,if_neg h0];obtain⟨n,hn⟩:=Int.eq_ofNat_of_zero_le hx.1;rw [qRT r.points (wD t r x) (by have:=hs.points;omega) (λi e b he hb=>?_) (λb=>by dsimp only;rw [if_neg (by omega)];rfl),aA]
 ·have hR := qH (⟨⟨#[]⟩, 0, 0, [], r.points.filter (wD t r x), [], 0, 0, [], r.overPoints, [], r.flank, [], []⟩ : Route) ⟨Nat.zero_le _, Nat.le_trans (List.length_filter_le _ _) hs.points, hs.over, hs.flank⟩ (fun s hm => ?_)
  ·rw [hR];rfl
  refine ho r hr s ?_;simp only [bS,zQN,List.mem_filter] at hm ⊢
  grind
 dsimp only;have hi:i < r.points.length:=(zQQ.1 he).1;obtain⟨k,hk,hkl⟩:=gB (h3 r hr).2 (s:=e) (by simp [bS,zQM he]);have hh:=xX hc hk;have hsec:=hs.secs;have hp:=hs.points;rw [if_pos (by omega),aG he,aB ⟨by omega,hx.1,hx.2⟩,mR t e.el (by have:=h.points;unfold Cnt;omega),aA,hk];rw [show fM (some k)=(k:Int) from rfl,aG hh,hn,zCD,qOO _ _ (by unfold Cnt;rw [List.length_take];omega),aA];have hkb:wD t r x e=!decide (pP t e.el∈r.sections.take n):=by unfold wD;rw [hn];rfl
 rw [hkb];split
 ·rename_i h1;rw [aB (by simp;omega),aB (aO hi (by omega))]
 rename_i h1;rw [aB (aO hi (by omega))]
theorem qJN (t:Table) (r:Route) (x:RouteState) (hs:Short r):(lT t r x).length≤6000000:=by
 unfold lT;split
 ·simp
 have h1:=lJ (r.points.filter (wD t r x)++r.overPoints++r.flank);have h2:=List.length_filter_le (wD t r x) r.points;have:=hs.points;have:=hs.over;have:=hs.flank;simp only [zQL] at h1;omega
theorem qAU {t:Table} {r:Route} {x:RouteState} {e:Setting} (h:e∈lT t r x):e∈bS r:=by
 unfold lT at h;split at h
 ·cases h
 rw [ascS_mem] at h;simp only [bS,zQN,List.mem_filter] at h ⊢
 grind
def mY (a b:List Int):Bool:=a.any λn=>decide (n∈b)
theorem qAM (a b:List Int):mY a b=mY b a:=by
 rw [Bool.eq_iff_iff];simp only [mY,zQU,decide_eq_true_eq];grind
def jI (a b:Route):Bool:=decide (0≤a.exit)&&decide (b.entry=a.exit)
theorem qIX (a b:Route):fA a b=some (jI a b):=rfl
def kZ (r:Route) (x:RouteState):List A2_int:=(jJ r x).map (λn=>⟨n,0⟩)++(lF r x).map (λn=>⟨n,1⟩)
theorem qDN (r:Route) (x:RouteState) (h:Short r):(jJ r x).length≤2000000:=by have:=h.secs;unfold jJ;split<;>simp<;>omega
theorem qDQ (r:Route) (x:RouteState) (h:Short r):(lF r x).length≤2000000:=by have:=h.secs;unfold lF;split<;>simp<;>omega
theorem qEA (r:Route) (x:RouteState) (h:Short r) (hx:bT x r.sections.length=true):kY r x=some (kZ r x):=by
 have h1:=qDN r x h;have h2:=qDQ r x h;unfold kY kZ;rw [qRP r x h hx,aA,qRS (jJ r x) (λn=>(⟨n,0⟩:A2_int)) [] (by omega) (λi e b he hb=>?_) (λb=>by dsimp only;rw [if_neg (by omega)];rfl),aA]
 ·rw [zEJ r x h, aA, qRS (lF r x) (fun n => (⟨n, 1⟩ : A2_int)) _ (by omega) (fun i e b he hb => ?_) (fun b => by dsimp only; rw [if_neg (by omega)]; rfl), aA]
  ·rfl
  have hi:=(zQQ.1 he).1;dsimp only;rw [if_pos (by omega),aG he,aB (by simp at hb ⊢;omega),aB (aO hi (by omega))]
 have hi:=(zQQ.1 he).1;dsimp only;rw [if_pos (by omega),aG he,aB (by simp at hb ⊢;omega),aB (aO hi (by omega))]
theorem zEV (l:List A2_int) (n p:Int) (h:Cnt l) (ho:∀ s∈l,A2_int.ok s) (hx:A2_int.ok ⟨n,p⟩):rT l n p=some (decide ((⟨n,p⟩:A2_int)∈l)):=by
 unfold rT;rw [fE l (λe=>decide (e=⟨n,p⟩)) (.inr true) (.inl ()) h (λi e he=>?_) (by rw [if_neg (by omega)];rfl)]
 ·have e1 : (l.any fun e => decide (e = ⟨n, p⟩)) = decide ((⟨n, p⟩ : A2_int) ∈ l) := by rw [Bool.eq_iff_iff]; simp
  rw [e1];by_cases hm:(⟨n,p⟩:A2_int)∈l
  ·rw [if_pos (by simpa using hm)];simp [hm]
  rw [if_neg (by simpa using hm)];simp [hm]
 have hi:=(zQQ.1 he).1;rw [if_pos (by omega),aG he,aB ⟨ho e (zQM he),hx⟩];by_cases h1:e=⟨n,p⟩
 ·rw [if_pos h1,if_pos (by simpa using h1)];rfl
 rw [if_neg h1,if_neg (by simpa using h1),aB (aO hi h)]
def mO (a b:Route) (pa oa pb ob:List Int):Bool:=
 mY pa pb||(mY oa pb&&!jI a b)||(mY pa ob&&!jI b a)||(mY oa ob&&!jI a b&&!jI b a)
theorem qYV {n:Int} (h:I64 n) (p:Int) (hp:p=0∨p=1):A2_int.ok ⟨n,p⟩:=by
 refine⟨h,?_⟩;rcases hp with rfl|rfl<;>(simp only;unfold I64;omega)
theorem zFN (a b:Route) (pa oa pb ob:List Int) (hpa:pa.length≤2000000∧∀ n∈pa,I64 n) (hoa:oa.length≤2000000∧∀ n∈oa,I64 n) (hpb:pb.length≤2000000∧∀ n∈pb,I64 n) (hob:ob.length≤2000000∧∀ n∈ob,I64 n):
  mK a b (pa.map (λn=>⟨n,0⟩)++oa.map (λn=>⟨n,1⟩)) (pb.map (λn=>⟨n,0⟩)++ob.map (λn=>⟨n,1⟩))=some (mO a b pa oa pb ob):=by
 unfold mK;rw [qIX,aA,qIX,aA];generalize hL:(pa.map (λn=>(⟨n,0⟩:A2_int))++oa.map (λn=>(⟨n,1⟩:A2_int)))=la;generalize hM:(pb.map (λn=>(⟨n,0⟩:A2_int))++ob.map (λn=>(⟨n,1⟩:A2_int)))=lb;have hla:la.length≤4000000:=by rw [← hL];simp;omega
 have hlb:lb.length≤4000000:=by rw [← hM];simp;omega
 have hao:∀ e∈la,I64 e.a0:=by
  intro e he;rw [← hL,zQN,List.mem_map,List.mem_map] at he;rcases he with ⟨n,hn,rfl⟩|⟨n,hn,rfl⟩
  ·exact hpa.2 n hn
  exact hoa.2 n hn
 have hbo:∀ e∈lb,A2_int.ok e:=by
  intro e he;rw [← hM,zQN,List.mem_map,List.mem_map] at he;rcases he with ⟨n,hn,rfl⟩|⟨n,hn,rfl⟩
  ·exact qYV (hpb.2 n hn) 0 (.inl rfl)
  exact qYV (hob.2 n hn) 1 (.inr rfl)
 rw [fE la (λe=>(decide ((⟨e.a0,0⟩:A2_int)∈lb)&&(decide (e.a1=0)||!jI a b))||(decide ((⟨e.a0,1⟩:A2_int)∈lb)&&!jI b a&&(decide (e.a1=0)||!jI a b))) (.inr true) (.inl ()) (by omega) (λi e he=>?_) (by rw [if_neg (by omega)];rfl)]
 ·have e1:(la.any λe=>(decide ((⟨e.a0,0⟩:A2_int)∈lb)&&(decide (e.a1=0)||!jI a b))||(decide ((⟨e.a0,1⟩:A2_int)∈lb)&&!jI b a&&(decide (e.a1=0)||!jI a b)))=mO a b pa oa pb ob:=by
   rw [← hL,← hM,List.any_append,List.any_map,List.any_map,Bool.eq_iff_iff];unfold mO mY;simp only [Bool.or_eq_true,zQA,zQU,Function.comp,zQN,List.mem_map,A2_int.mk.injEq,decide_eq_true_eq,Bool.not_eq_true']
   grind
  rw [e1];cases mO a b pa oa pb ob<;>rfl
 have hi:=(zQQ.1 he).1;have hm:=zQM he;rw [if_pos (by omega),aG he,zEV lb e.a0 0 (by unfold Cnt;omega) hbo (qYV (hao e hm) 0 (.inl rfl)),aA,zEV lb e.a0 1 (by unfold Cnt;omega) hbo (qYV (hao e hm) 1 (.inr rfl)),aA];by_cases h1:e.a1=0<;>cases hA:jI a b<;>cases hB:jI b a<;>by_cases h2:(⟨e.a0,0⟩:A2_int)∈lb<;>by_cases h3:(⟨e.a0,1⟩:A2_int)∈lb<;>simp [h1,h2,h3,aO hi (show la.length≤9223372036854775807 by omega)]
def rAt (t:Table) (i:Nat):Route:=(t.routes[i]?).getD default
def xAt (s:Inter) (i:Nat):RouteState:=(s.routes[i]?).getD default
theorem qUX {t:Table} {i:Nat} (h:i < t.routes.length):t.routes[i]?=some (rAt t i):=by unfold rAt;rw [zQR h];rfl
theorem qTW {s:Inter} {i:Nat} (h:i < s.routes.length):s.routes[i]?=some (xAt s i):=by unfold xAt;rw [zQR h];rfl
structure FitsAt (t:Table) (s:Inter) (i:Nat):Prop where
 r:t.routes[i]?=some (rAt t i)
 x:s.routes[i]?=some (xAt s i)
 mem:rAt t i∈t.routes
 fits:bT (xAt s i) (rAt t i).sections.length=true
theorem eB {t:Table} {s:Inter} (h:fN t s=true) {i:Nat} (hi:i < t.routes.length):FitsAt t s i:=by
 have h':=fitsB_iff.1 h;have hr:=qUX hi;have hx:=qTW (s:=s) (i:=i) (by omega);refine⟨hr,hx,zQM hr,?_⟩;have:=h'.2.2.2.1 i (by omega)
 rwa [iJ hx hr] at this
def eZ (t:Table) (s:Inter) (i:Nat):List Int:=jJ (rAt t i) (xAt s i)
def gJ (t:Table) (s:Inter) (i:Nat):List Int:=lF (rAt t i) (xAt s i)
def iQ (t:Table) (s:Inter) (i:Nat):List Setting:=lT t (rAt t i) (xAt s i)
def iD (t:Table) (s:Inter) (a b:Nat):Bool:=mO (rAt t a) (rAt t b) (eZ t s a) (gJ t s a) (eZ t s b) (gJ t s b)
def nG (t:Table) (s:Inter) (el:Int):Int:=((bY t.points el).bind (s.lies[·]?)).getD 0
def qFA (t:Table) (s:Inter) (e:Setting):Bool:=decide (nG t s e.el=e.pos)
def fU (t:Table) (s:Inter):Bool:=
 fN t s&&(mW t.routes.length λa=>mW a λb=>!iD t s a b)&&mW t.routes.length λa=>(iQ t s a).all (qFA t s)
theorem qBT {t:Table} {s:Inter} (h:fN t s=true) {el:Int} {k:Nat} (hk:bY t.points el=some k):s.lies[k]?=some (nG t s el):=by
 have h':=fitsB_iff.1 h;obtain⟨_,_,_,hlt⟩:=rN hk;have:s.lies[k]?=some s.lies[k]:=by rw [zQR]
 simp [nG,hk,this]
theorem qHP {t:Table} {r:Route} (h:lP t r=true) (hl:qOI t=true):∀ n∈r.sections++r.overSections,0≤n∧n < t.sections∧n < 24:=by
 intro n hn;unfold lP at h;simp only [zQA] at h;obtain⟨i,hi,rfl⟩:=List.mem_iff_getElem.1 hn;have h1:=allB_iff.1 h.1.1.2 i hi;rw [qAY (s:=(r.sections++r.overSections)[i]) (by rw [zQR hi]),zQA] at h1;have h2:=of_decide_eq_true hl;have h3:0≤(r.sections++r.overSections)[i]∧(r.sections++r.overSections)[i] < t.sections:=by simpa [inB] using h1.1
 omega
theorem qZY {r:Route} {x:RouteState} {n:Int} (h:n∈jJ r x):n∈r.sections:=by
 unfold jJ at h;split at h
 ·cases h
 exact List.mem_of_mem_drop h
theorem zAA {r:Route} {x:RouteState} {n:Int} (h:n∈lF r x):n∈r.overSections:=by
 unfold lF at h;split at h
 ·cases h
 exact h
theorem qRE {t:Table} {r:Route} (hc:dQ t=0) (hr:r∈t.routes) (h:Short r) (x:RouteState):(jJ r x).length≤2000000∧∀ n∈jJ r x,I64 n:=by
 obtain⟨h1,_,h3,_⟩:=cJ hc;refine⟨qDN r x h,λn hn=>?_⟩;have:=qHP (h3 r hr).1 h1 n (List.mem_append_left _ (qZY hn));unfold I64;omega
theorem qRF {t:Table} {r:Route} (hc:dQ t=0) (hr:r∈t.routes) (h:Short r) (x:RouteState):(lF r x).length≤2000000∧∀ n∈lF r x,I64 n:=by
 obtain⟨h1,_,h3,_⟩:=cJ hc;refine⟨qDQ r x h,λn hn=>?_⟩;have:=qHP (h3 r hr).1 h1 n (List.mem_append_right _ (zAA hn));unfold I64;omega
theorem qME {t:Table} (h:TOk t) (hc:dQ t=0) {a b:Route} (ha:a∈t.routes) (hb:b∈t.routes) (x y:RouteState):mK a b (kZ a x) (kZ b y)=some (mO a b (jJ a x) (lF a x) (jJ b y) (lF b y)):=
 zFN a b _ _ _ _ (qRE hc ha (h.each a ha) x) (qRF hc ha (h.each a ha) x) (qRE hc hb (h.each b hb) y) (qRF hc hb (h.each b hb) y)
theorem qJZ (n:Nat) (P:Nat→Bool):((List.range n).any P)=!mW n λi=>!P i:=by simp [mW,List.not_all_eq_any_not]
theorem qQB (t:Table) (s:Inter) (h:TOk t) (ho:SOk t):oD t s=some (fU t s):=by
 unfold oD fU;rw [qXY t s h,aA];by_cases hf:fN t s=true
 ·have hc:=(fitsB_iff.1 hf).1;have hrl:=h.routes;rw [hf,if_neg (by simp),Bool.true_and];rw [fF (b:=([]:List (List A2_int))) (o:=(List.range t.routes.length).map λi=>kZ (rAt t i) (xAt s i)) t.routes.length (λi=>(List.range i).map λi=>kZ (rAt t i) (xAt s i)) rfl (by omega) (λi hi=>?_) (by dsimp only;rw [if_neg (by omega)];rfl),aA]
  ·have hb3:∀ i,i < t.routes.length→((List.range t.routes.length).map λi=>kZ (rAt t i) (xAt s i))[i]?=some (kZ (rAt t i) (xAt s i)):=by
    intro i hi;rw [zQP,List.getElem?_range hi];rfl
   generalize ((List.range t.routes.length).map λi=>kZ (rAt t i) (xAt s i))=b3 at hb3;rw [lL t.routes.length (λa=>(List.range a).any λb=>iD t s a b) (.inr false) (.inl ()) (by omega) (λa ha=>?_) (by rw [if_neg (by omega)];rfl)]
   ·rw [qJZ]
    have e1:(mW t.routes.length λi=>!(List.range i).any λb=>iD t s i b)=mW t.routes.length λa=>mW a λb=>!iD t s a b:=by
     unfold mW;congr 1;funext a;rw [qJZ];simp [mW]
    rw [e1];cases hA:(mW t.routes.length λa=>mW a λb=>!iD t s a b)
    ·rfl
    rw [if_neg (by simp), dB];rw [lL t.routes.length (λa=>(iQ t s a).any λe=>!qFA t s e) (.inr false) (.inl ()) (by omega) (λa ha=>?_) (by rw [if_neg (by omega)];rfl)]
    ·rw [qJZ]
     have e2:(mW t.routes.length λi=>!(iQ t s i).any λe=>!qFA t s e)=mW t.routes.length λa=>(iQ t s a).all (qFA t s):=by
      unfold mW;congr 1;funext a;rw [iL];simp
     rw [e2];cases (mW t.routes.length λa=>(iQ t s a).all (qFA t s))<;>rfl
    have H:=eB hf ha;have hbl:=qJN t (rAt t a) (xAt s a) (h.each _ H.mem);rw [if_pos (by omega),aG H.r,aG H.x,qLS t _ _ h ho hc H.mem (qBC H.fits),aA];rw [fE (lT t (rAt t a) (xAt s a)) (λe=>!qFA t s e) (.inr (.inr (.inr false))) (.inl ()) (by omega) (λi e he=>?_) (by rw [if_neg (by omega)];rfl)]
    ·rw [show iQ t s a=lT t (rAt t a) (xAt s a) from rfl];cases ((lT t (rAt t a) (xAt s a)).any λe=>!qFA t s e)
     ·rw [if_neg (by simp),if_neg (by simp),dB,aB (aO ha (by omega))]
     rfl
    have hi:=(zQQ.1 he).1;obtain⟨k,hk,hkl⟩:=gB ((cJ hc).2.2.1 _ H.mem).2 (qAU (zQM he));have hp:=h.points;rw [if_pos (by omega),aG he,mR t e.el (by unfold Cnt;omega),aA,hk,show fM (some k)=(k:Int) from rfl,aG (qBT hf hk)];unfold qFA;by_cases h1:nG t s e.el=e.pos
    ·rw [if_pos h1,if_neg (by simpa using h1),aB (aO hi (by omega))]
    rw [if_neg h1,if_pos (by simpa using h1)];rfl
   rw [if_pos (by omega)];rw [lL a (λb=>iD t s a b) (.inr (.inr (.inr false))) (.inl ()) (by omega) (λb hb=>?_) (by rw [if_neg (by omega)];rfl)]
   ·cases ((List.range a).any fun b => iD t s a b)
    ·rw [if_neg (by simp),if_neg (by simp),dB,aB (aO ha (by omega))]
    rfl
   have H:=eB hf ha;have H':=eB hf (i:=b) (by omega);rw [if_pos (by omega),aG H.r,aG H'.r,aG (hb3 a ha),aG (hb3 b (by omega)),qME h hc H.mem H'.mem,aA];rw [show mO (rAt t a) (rAt t b) (jJ (rAt t a) (xAt s a)) (lF (rAt t a) (xAt s a)) (jJ (rAt t b) (xAt s b)) (lF (rAt t b) (xAt s b))=iD t s a b from rfl];have hg:I64 ((b:Int)+1):=aO hb (by omega);cases iD t s a b
   ·simp only [Bool.false_eq_true,if_false,aB hg]
   rw [if_pos rfl,if_pos rfl];rfl
  dsimp only;have H:=eB hf hi;rw [if_pos (by omega),aG H.r,aG H.x,qEA _ _ (h.each _ H.mem) H.fits,aA,aB (by simp;omega),aB (aO hi (by omega)),List.range_succ,List.map_append];rfl
 simp only [Bool.not_eq_true] at hf;rw [hf];rfl
def qPM (t:Table) (s:Inter) (a b:Nat):Bool:=
 !(mY (eZ t s a) (eZ t s b)||(mY (gJ t s a) (eZ t s b)&&!jI (rAt t a) (rAt t b)))&&(!mY (gJ t s a) (gJ t s b)||jI (rAt t a) (rAt t b)||jI (rAt t b) (rAt t a))
theorem qFG (t:Table) (s:Inter) (a b:Nat):(!iD t s a b)=(qPM t s a b&&qPM t s b a):=by
 unfold iD mO qPM;rw [qAM (eZ t s b) (eZ t s a),qAM (gJ t s b) (eZ t s a),qAM (gJ t s b) (gJ t s a)];cases mY (eZ t s a) (eZ t s b)<;>cases mY (gJ t s a) (eZ t s b)<;>cases mY (eZ t s a) (gJ t s b)<;>cases mY (gJ t s a) (gJ t s b)<;>cases jI (rAt t a) (rAt t b)<;>cases jI (rAt t b) (rAt t a)<;>rfl
theorem qJH (t:Table) (s:Inter) (a b:Nat):iD t s a b=iD t s b a:=by
 have h1:=qFG t s a b;have h2:=qFG t s b a;rw [Bool.and_comm,← h1] at h2;simpa using h2.symm
def gM (l:List Bool) (n:Int):Bool:=if n < 0 then true else if (l.length:Int)≤n then true else l.getD n.toNat false
theorem qYK (l:List Bool) (n:Int):(aC (if n < (0:Int) then some true else if (l.length:Int)≤n then some true else aU l n λe5=>some e5) λx1=>some x1)=some (gM l n):=by
 unfold gM;by_cases h1:n < 0
 ·rw [if_pos h1,if_pos h1];rfl
 rw [if_neg h1,if_neg h1];by_cases h2:(l.length:Int)≤n
 ·rw [if_pos h2,if_pos h2];rfl
 rw [if_neg h2,if_neg h2];obtain⟨i,rfl⟩:=Int.eq_ofNat_of_zero_le (show 0≤n by omega);have he:l[i]?=some (l.getD i false):=by rw [zQD,zQR (by omega)];rfl
 rw [aG he];rfl
theorem xD (l:List Bool) (n:Int):hZ l n=some (gM l n):=qYK l n
def wW:RouteState:=⟨1,0,0⟩
theorem qLE (n:Nat):bT wW n=true:=rfl
theorem qDM (r:Route):jJ r wW=r.sections:=rfl
theorem qDP (r:Route):lF r wW=r.overSections:=rfl
def lS (t:Table) (s:Inter) (i o:Nat):Bool:=!decide (o=i)&&mO (rAt t i) (rAt t o) (rAt t i).sections (rAt t i).overSections (eZ t s o) (gJ t s o)
def gD (t:Table) (s:Inter) (i o:Nat):Bool:=!decide (o=i)&&!mQ (eG (bS (rAt t i))) (iQ t s o)
def kS (t:Table) (s:Inter) (p:Inputs) (e:Setting):Bool:=!decide (nG t s e.el=e.pos)&&gM p.occupied (pP t e.el)
def oY (t:Table) (s:Inter) (p:Inputs) (n:Int):Int:=
 if fU t s=false∨n < 0∨(t.routes.length:Int)≤n then 1
 else if ¬ (xAt s n.toNat).state=0 then 11
 else if ((rAt t n.toNat).sections++(rAt t n.toNat).overSections).any (gM p.closed)=true then 13
 else if (List.range t.routes.length).any (lS t s n.toNat)=true then 12
 else if (List.range t.routes.length).any (gD t s n.toNat)=true then 10
 else if (eG (bS (rAt t n.toNat))).any (kS t s p)=true then 14
 else 0
theorem cV {t:Table} {s:Inter} (h:fU t s=true):fN t s=true:=by
 unfold fU at h;rw [zQA,zQA] at h;exact h.1.1
theorem headM (b:Bool) (n:Int) (L:Nat):(if (!b)=true then some true else if n < (0:Int) then some true else some (decide ((L:Int)≤n)))=some (decide (b=false∨n < 0∨(L:Int)≤n)):=by
 cases b
 ·simp
 simp only [Bool.not_true,Bool.false_eq_true,if_false,false_or];by_cases h:n < 0
 ·simp [h]
 simp [h]
theorem zEA (t:Table) (s:Inter) (p:Inputs) (h:TOk t) (hf:fN t s=true) (l:List Setting) (hl:l.length≤6000000) (hm:∀ e∈l,∃ k,bY t.points e.el=some k∧k < t.points.length) (g:Int→Option Bool) (hg:∀ n,g n=some (gM p.occupied n)):
  bB (fun x60 =>
     if x60 < (l.length : Int) then
      aU l x60 fun e63 =>
      aC (eK t e63.el) fun r64 =>
      aC (
       aU s.lies r64 fun e67 =>
       if e67 = e63.pos then
        some false
       else
        aU t.homes r64 fun e69 =>
        aC (g e69) fun r70 =>
        some r70) fun x65 =>
      if x65 = true then
       aN (
        aN (
         some (14 : Int)))
      else
       aD (I64 (x60 + (1 : Int))) <|
       some (.inl (x60 + (1 : Int)))
     else
      aN (
       some (.inl ()))) (0 : Int) = some (if l.any (kS t s p) = true then Sum.inr (14 : Int) else Sum.inl ()) := by
 have hc:=(fitsB_iff.1 hf).1;refine fE l (kS t s p) (Sum.inr (14:Int)) (Sum.inl ()) (by omega) (λi e he=>?_) (by rw [if_neg (by omega)];rfl);have hi:=(zQQ.1 he).1;obtain⟨k,hk,hkl⟩:=hm e (zQM he);have hp:=h.points;have hg1:I64 ((i:Int)+1):=aO hi (by omega);rw [if_pos (by omega),aG he,mR t e.el (by unfold Cnt;omega),aA,hk,show fM (some k)=(k:Int) from rfl,aG (qBT hf hk)];unfold kS;by_cases h1:nG t s e.el=e.pos
 ·rw [if_pos h1,aA];simp [h1,aB hg1]
 rw [if_neg h1,aG (xX hc hk),hg,aA,aA];cases gM p.occupied (pP t e.el)
 ·simp [aB hg1]
 simp [h1]
theorem zKH (t:Table) (s:Inter) (p:Inputs) (n:Int) (h:TOk t) (ho:SOk t):sN t s p n=some (oY t s p n):=by
 unfold sN oY;rw [qQB t s h ho,aA,headM,aA];by_cases hd:fU t s=false∨n < 0∨(t.routes.length:Int)≤n
 ·rw [if_pos (decide_eq_true hd),if_pos hd]
 rw [if_neg (by simpa using hd), if_neg hd]
 have hs:fU t s=true:=by
  cases h1:fU t s with
  | true=>rfl
  | false=>exact absurd (.inl h1) hd
 have hf:=cV hs;have hc:=(fitsB_iff.1 hf).1;obtain⟨i,rfl⟩:=Int.eq_ofNat_of_zero_le (show 0≤n from by omega);have hi:i < t.routes.length:=by omega
 have hrl:=h.routes;have H:=eB hf hi;have hS:=h.each _ H.mem;have hall:(bS (rAt t i)).length≤6000000:=by have:=hS.points;have:=hS.over;have:=hS.flank;simp [bS];omega
 have hasc:=Nat.le_trans (lJ (bS (rAt t i))) hall;rw [show ((i:Int)).toNat=i from rfl,aG H.x];by_cases h0:(xAt s i).state=0
 ·rw [if_pos h0, if_neg (fun h => h h0), aG H.r, show (⟨1, 0, 0⟩ : RouteState) = wW from rfl, qEA _ _ hS (qLE _), aA]
  have hwl:(kZ (rAt t i) wW).length≤4000000:=by
   have h1:=qDN _ wW hS;have h2:=qDQ _ wW hS;unfold kZ;simp;omega
  rw [fE (kZ (rAt t i) wW) (λe=>gM p.closed e.a0) (.inr 13) (.inl ()) (by omega) (λj e he=>?_) (by rw [if_neg (by omega)];rfl)]
  ·have e1:((kZ (rAt t i) wW).any λe=>gM p.closed e.a0)=((rAt t i).sections++(rAt t i).overSections).any (gM p.closed):=by
    unfold kZ;rw [List.any_append,List.any_append,List.any_map,List.any_map,qDM,qDP];rfl
   rw [e1];cases ((rAt t i).sections++(rAt t i).overSections).any (gM p.closed)
   ·simp only [Bool.false_eq_true,if_false,dB];rw [lL t.routes.length (lS t s i) (.inr 12) (.inl ()) (by omega) (λo hoo=>?_) (by rw [if_neg (by omega)];rfl)]
    ·cases (List.range t.routes.length).any (lS t s i)
     ·simp only [Bool.false_eq_true,if_false,dB];rw [qH _ hS (ho _ H.mem),aA];rw [lL t.routes.length (gD t s i) (.inr 10) (.inl ()) (by omega) (λo hoo=>?_) (by rw [if_neg (by omega)];rfl)]
      ·cases (List.range t.routes.length).any (gD t s i)
       ·simp only [Bool.false_eq_true,if_false,dB];rw [zEA t s p h hf _ hasc (λe he=>gB ((cJ hc).2.2.1 _ H.mem).2 (ascS_mem.1 he)) (hZ p.occupied) (xD p.occupied)];cases (eG (bS (rAt t i))).any (kS t s p)<;>rfl
       simp only [if_true];rfl
      have H':=eB hf hoo;have hg:I64 ((o:Int)+1):=aO hoo (by omega);have hbl:=qJN t (rAt t o) (xAt s o) (h.each _ H'.mem);rw [if_pos (by omega),aG H'.r];unfold gD;by_cases hio:o=i
      ·subst hio;simp [aB hg]
      rw [if_neg (by omega), aG H'.x, qLS t _ _ h ho hc H'.mem (qBC H'.fits), aA, qCP _ _ (by unfold Cnt; omega) (by unfold Cnt; omega), aA, aA, decide_eq_false hio];rw [show iQ t s o=lT t (rAt t o) (xAt s o) from rfl];cases mQ (eG (bS (rAt t i))) (lT t (rAt t o) (xAt s o))
      ·simp only [Bool.not_false,Bool.and_self,if_true];rfl
      simp [aB hg]
     simp only [if_true];rfl
    have H':=eB hf hoo;have hg:I64 ((o:Int)+1):=aO hoo (by omega);rw [if_pos (by omega),aG H'.r];unfold lS;by_cases hio:o=i
    ·subst hio;simp [aB hg]
    rw [if_neg (by omega), aG H'.x, qEA _ _ (h.each _ H'.mem) H'.fits, aA, qME h hc H.mem H'.mem, aA, aA, decide_eq_false hio, qDM, qDP];rw [show jJ (rAt t o) (xAt s o)=eZ t s o from rfl,show lF (rAt t o) (xAt s o)=gJ t s o from rfl];cases mO (rAt t i) (rAt t o) (rAt t i).sections (rAt t i).overSections (eZ t s o) (gJ t s o)
    ·simp [aB hg]
    simp only [Bool.not_false,Bool.and_self,if_true];rfl
   simp only [if_true];rfl
  have hj:=(zQQ.1 he).1;rw [if_pos (by omega),aG he,xD,aA];cases gM p.closed e.a0
  ·simp [aB (aO hj (show (kZ (rAt t i) wW).length≤9223372036854775807 by omega))]
  simp only [if_true];rfl
 rw [if_neg h0,if_pos h0]
end Go.Proofs.YtcagmechagiclaaGreatDoor
