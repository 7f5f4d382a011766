/- Texts of this proof, joined, without what it does not use. No condition. -/
import Derived.Test.YtldaknhjmhlefaaGreatDoorQt

set_option maxHeartbeats 8000000
set_option linter.unusedSimpArgs false
set_option linter.unusedVariables false
set_option maxRecDepth 20000
namespace Go.Proofs.YtldaknhjmhlefaaGreatDoor
open Go Go.TL
theorem xS:∀ (fu:Nat) {p0:Expr} {p1:Expr} {r:Bool} (hm:jJ fu p0 p1=some r),RetN Tryz.prog 23 [p0.enc,p1.enc] (.bool (r)):=by
 intro fu
 induction fu with
 | zero=>
  intro p0 p1 r hm;unfold jJ at hm;cases hm
 | succ fu ih=>
  intro p0 p1 r hm;refine .unit (aF qPV Tryz.func23 Q Tryz.ntmps23 Q Q (λwX gX=>?_)) Q;unfold jJ at hm;refine WN [0,1] Q Q (RS (cD 0 Q Q Q (cD 1 Q Q Q (SA TK Q (TN (WN [2,3] Q Q (TQ ?_)))))));refine eM [(26,.d (.bool (((!(decide (p0.op=p1.op)))||((!(decide (p0.var=p1.var)))||(!(decide ((p0.args.length:Int)=(p1.args.length:Int)))))))))] [26] [2,3] Q ?_ ?_
  ·refine TG ?_;iterate 5 (refine SA TK Q ?_)
   refine SB TK Q (λq1 hq1=>?_);cases q1
   ·iterate 6 (refine SA TK Q ?_)
    refine SB TK Q (λq2 hq2=>?_);cases q2
    ·refine SA TK Q (SA TK Q (SX Q Q (aM TK Q Q Q) (SA TK Q (SA TK Q (SX Q Q (aM TK Q Q Q) (SA TK Q (SA TK Q (TN (WT ?_)))))))));exact⟨[0,1],Q,k0,bE (aK (aP (by first|(simp [hq1,hq2];done)|(simp only [hq1,hq2];simp))) Q) Q⟩
    iterate 8 (refine SA TK Q ?_)
    refine TN (WT ?_);exact⟨[0,1],Q,k0,bE (aK (aP (by first|(simp [hq1,hq2];done)|(simp only [hq1,hq2];simp))) Q) Q⟩
   iterate 15 (refine SA TK Q ?_)
   refine TN (WT ?_);exact⟨[0,1],Q,k0,bE (aK (aP (by first|(simp [hq1];done)|(simp only [hq1];simp))) Q) Q⟩
  refine WN [2,3,26] Q Q ?_;refine TC _ Q (λh3=>?_) (λh3=>?_)
  ·replace hm:=JA h3 hm;refine RS (SA TK Q (TN (WN [4] Q Q (TR (WR ?_)))));obtain rfl:=OJ hm;exact EndsS.one _ Q (.d _) (.refl _)
  replace hm:=JB h3 hm;refine TS (WT (WN [2,3] Q Q ?_));refine bQ hm (λ_=>([]:Fr)) (λ_=>([]:List (Nat×Blk))) [] [] Q (λz4 hm hz4=>?_) (λj hm=>?_)
  ·refine RS (SA TK Q (TN (WN [2,3,5] Q Q (TB (aL hm (λi6=>([(5,.d (.int .i64 i6))]:Fr)) (λi6=>([]:List (Nat×Blk))) [5] [2,3] [0,1] Q k0 Q Q Q Q Q (λi6 z7 hm hz7=>WN [2,3,5] Q Q (TQ (RS ?_))))))));refine SA TK Q (SA TK Q (SA TK Q (SX Q Q (aM TK Q Q Q) (SA TK Q (TN (WN [2,3,5,31] Q Q ?_))))));refine TC _ Q (λh8=>?_) (λh8=>?_)
   ·replace hm:=JT h8 hm;refine TS (WT (WN [2,3,5] Q Q (TQ (TB (bB follows  ?_)))));iterate 3 (refine DA [0,1] TK Q ?_)
    refine VE hm λe9 he9 hm=>DX [0,1] Q Q (mM TK Q Q Q Q he9 (Expr.encR_eq _)) ?_;iterate 4 (refine DA [0,1] TK Q ?_)
    refine VE hm λe10 he10 hm=>DX [0,1] Q Q (mM TK Q Q Q Q he10 (Expr.encR_eq _)) (DA [0,1] TK Q (BE hm λr11 hr11 hm=>DX [0,1] Q Q (RN Q Q (SC (.d _) (SC (.d _) SN)) (ih hr11)) (DA [0,1] TK Q ?_)));refine DT ?_ (by kernel_rfl);refine TN (WN [2,3,5,45] Q Q ?_);refine TC _ Q (λh12=>?_) (λh12=>?_)
    ·replace hm:=JA h12 hm;refine RS (SA TK Q (TN (WN [4] Q Q (TR (WB (WR (IE hm λv13 hm hz=>?_)))))));rw [hz7 _ hz] at hm;refine WR (WB (IE hm λv14 hm hz=>?_));rw [hz4 _ hz] at hm;refine WR ?_;obtain rfl:=OJ hm;exact EndsS.one _ Q (.d _) (.refl _)
    replace hm:=JB h12 hm;refine TS (WK (WT (WN [2,3,5] Q Q (TG (SA TK Q (GE hm λg15 hm=>SX Q Q (aR Q Q Q Q g15) (SA TK Q ?_)))))));refine TN (WT ?_);exact⟨_,[0,1],(SJ hm),Q,k0,Q⟩
   replace hm:=JF h8 hm;refine aD (WX (IE hm λv16 hm hz=>?_));rw [hz7 _ hz] at hm;refine WX (WH (WT ?_));exact⟨_,[0,1],(SJ hm),Q,k0,Q⟩
  refine WN [] Q Q (RS (SA TK Q (TN (WN [4] Q Q (TR ?_)))));obtain rfl:=OJ hm;exact EndsS.one _ Q (.d _) (.refl _)
theorem sT {p0:Expr} {p1:Expr} {r:Bool} (hm:rZ p0 p1=some r):RetN Tryz.prog 23 [p0.enc,p1.enc] (.bool (r)):=xS cZ hm
theorem yK {p0:Expr} {r:If_node} (hm:kN p0=some r):RetD Tryz.prog 185 [.ptr (p0.enc) 0] (r.enc):=by
 refine .of (mv:=λ_=>false) (aF qKQ Tryz.func185 Q Tryz.ntmps185 Q Q (λwX gX=>?_));unfold kN at hm;refine WN [0] Q Q (RS (SA TK Q (TN (WN [0] Q Q (TQ (RS ?_))))));iterate 4 (refine SA TK Q ?_)
 refine TN (WN [0,6] Q Q (TB (RS (SA TK Q (SA TK Q (TN (WN [0,6,7] Q Q ?_)))))));refine TC _ Q (λh1=>?_) (λh1=>?_)
 ·replace hm:=JT h1 hm;refine RS (SA TK Q (SX Q Q (bD Q plc200 zA Q Q Q Q) (SA TK Q (SA TK Q (TN (WN [2] Q Q (TR (WB (WR ?_)))))))));obtain rfl:=OJ hm;exact EndsS.one _ Q (.d _) (.refl _)
 replace hm:=JF h1 hm;refine RS (SA TK Q (SA TK Q (TN (WN [0,6,12] Q Q ?_))));refine TC _ Q (λh2=>?_) (λh2=>?_)
 ·replace hm:=JT h2 hm;refine RS ?_;iterate 4 (refine SA TK Q ?_)
  refine SX Q Q (aM TK Q Q Q) (SA TK Q (TN (WN [0,19] Q Q ?_)));refine TC _ Q (λh3=>?_) (λh3=>?_)
  ·replace hm:=JT h3 hm;refine RS (SA TK Q (SX Q Q (bD Q plc201 yZ Q Q Q Q) (SA TK Q (SA TK Q (TN (WN [2] Q Q (TR (WB (WR ?_)))))))));obtain rfl:=OJ hm;exact EndsS.one _ Q (.d _) (.refl _)
  replace hm:=JF h3 hm;refine TS (WK (WT (WN [0] Q Q (RS (SA TK Q (SX Q Q (bD Q qHT qEK Q Q Q Q) (SA TK Q (SA TK Q (TN ?_)))))))));refine WN [2] Q Q (TR ?_);obtain rfl:=OJ hm;exact EndsS.one _ Q (.d _) (.refl _)
 replace hm:=JF h2 hm;refine RS (SA TK Q (SA TK Q (TN (WN [0,6,23] Q Q ?_))));refine TC _ Q (λh4=>?_) (λh4=>?_)
 ·replace hm:=JT h4 hm;refine RS (SA TK Q (SX Q Q (bD Q plc202 yY Q Q Q Q) (SA TK Q (SA TK Q (TN (WN [2] Q Q (TR (WB (WR ?_)))))))));obtain rfl:=OJ hm;exact EndsS.one _ Q (.d _) (.refl _)
 replace hm:=JF h4 hm;refine RS (SA TK Q (SA TK Q (TN (WN [0,28] Q Q ?_))));refine TC _ Q (λh5=>?_) (λh5=>?_)
 ·replace hm:=JT h5 hm;refine RS (SA TK Q (SX Q Q (bD Q plc203 yX Q Q Q Q) (SA TK Q (SA TK Q (TN (WN [2] Q Q (TR (WB (WR ?_)))))))));obtain rfl:=OJ hm;exact EndsS.one _ Q (.d _) (.refl _)
 replace hm:=JF h5 hm;refine TS (WK (WT (WN [0] Q Q (RS (SA TK Q (SX Q Q (bD Q qHT qEK Q Q Q Q) (SA TK Q (SA TK Q (TN ?_)))))))));refine WN [2] Q Q (TR ?_);obtain rfl:=OJ hm;exact EndsS.one _ Q (.d _) (.refl _)
theorem qAL:∀ (fu:Nat) {p0:Expr} {p1:(List Bool)} {r:Bool} (hm:fJ fu p0 p1=some r),RetN Tryz.prog 120 [.ptr (p0.enc) 0,.sl 1 (p1.map D.bool)] (.bool (r)):=by
 intro fu
 induction fu with
 | zero=>
  intro p0 p1 r hm;unfold fJ at hm;cases hm
 | succ fu ih=>
  intro p0 p1 r hm;refine .unit (aF qMI Tryz.func120 Q Tryz.ntmps120 Q Q (λwX gX=>?_)) Q;unfold fJ at hm;refine WN [0,1] Q Q (RS (SA TK Q (TN (WN [0,1] Q Q ?_))));refine bQ hm (λ_=>([]:Fr)) (λ_=>([]:List (Nat×Blk))) [] [0] Q (λz1 hm hz1=>?_) (λj hm=>?_)
  ·refine RS (SA TK Q (BE hm λr2 hr2 hm=>SX Q Q (RD Q Q Q (yK hr2)) (TN (WN [0,1,12] Q Q (TB (RS ?_))))));by_cases h3:r2.tid=200
   ·rw [if_pos h3] at hm;refine SX Q Q (qEO Q qFP Q h3) (SA TK Q (SA TK Q (TN (WN [0,1,12,14,15] Q Q ?_))));refine TC true Q (λ_=>?_) (λh=>by cases h);refine RS (cA 0 Q Q zA Q (SA TK Q (TN (WN [1,5] Q Q ?_))));refine aE hm (λx4=>([(4,.d (.bool (x4)))]:Fr)) (λx4=>([]:List (Nat×Blk))) [4] [] Q (λz5 hm=>?_) (λx4 hm=>?_)
    ·refine TG ?_;iterate 6 (refine SA TK Q ?_)
     refine SB TK Q (λq6 hq6=>?_);cases q6
     ·replace hm:=JF hq6 hm;iterate 20 (refine SA TK Q ?_)
      refine TN (WT ?_);exact⟨_,[0],(SJ hm),Q,k0,Q⟩
     replace hm:=JT hq6 hm;iterate 6 (refine SA TK Q ?_)
     refine SX Q Q (aM TK Q Q Q) (SA TK Q (SA TK Q (SB TK Q (λq7 hq7=>?_))));cases q7
     ·replace hm:=JF hq7 hm;iterate 10 (refine SA TK Q ?_)
      refine TN (WT ?_);exact⟨_,[0],(SJ hm),Q,k0,Q⟩
     replace hm:=JT hq7 hm;iterate 6 (refine SA TK Q ?_)
     refine VE hm λe8 he8 hm=>SX Q Q (bA TK Q Q Q Q he8) (SA TK Q (SA TK Q (SA TK Q (TN (WT ?_)))));exact⟨_,[0],(SJ hm),Q,k0,Q⟩
    refine WN [4] Q Q (TR (WB (IE hm λv9 hm hz=>?_)));rw [hz1 _ hz] at hm;refine WR ?_;obtain rfl:=OJ hm;exact EndsS.one _ Q (.d _) (.refl _)
   rw [if_neg h3] at hm;refine SX Q Q (qEP Q qFP Q h3 zA Q) (SA TK Q (SA TK Q (TN (WN [0,1,12,14] Q Q (TC false Q (λh=>by cases h) (λ_=>RS ?_))))));by_cases h10:r2.tid=201
   ·rw [if_pos h10] at hm;refine SX Q Q (qEO Q qFO Q h10) (SA TK Q (SA TK Q (TN (WN [0,1,12,43,44] Q Q ?_))));refine TC true Q (λ_=>?_) (λh=>by cases h);refine RS (cA 0 Q Q yZ Q (SA TK Q (TN (WN [1,6] Q Q (RS ?_)))));iterate 5 (refine SA TK Q ?_)
    refine VE hm λe11 he11 hm=>SX Q Q (mM TK Q Q Q Q he11 (Expr.encR_eq _)) (SA TK Q (BE hm λr12 hr12 hm=>SX Q Q (RN Q Q (SC (.d _) (SC (.d _) SN)) (ih hr12)) (SA TK Q (SA TK Q (TN (WN [4] Q Q (TR ?_)))))));refine WB (IE hm λv13 hm hz=>?_);rw [hz1 _ hz] at hm;refine WR ?_;obtain rfl:=OJ hm;exact EndsS.one _ Q (.d _) (.refl _)
   rw [if_neg h10] at hm;refine SX Q Q (qEP Q qFO Q h10 yZ Q) (SA TK Q (SA TK Q (TN (WN [0,1,12,43] Q Q (TC false Q (λh=>by cases h) (λ_=>RS ?_))))));by_cases h14:r2.tid=202
   ·rw [if_pos h14] at hm;refine SX Q Q (qEO Q qFN Q h14) (SA TK Q (SA TK Q (TN (WN [0,1,12,55,56] Q Q ?_))));refine TC true Q (λ_=>?_) (λh=>by cases h);refine RS (cA 0 Q Q yY Q (SA TK Q (TN (WN [1,7] Q Q ?_))));refine bQ hm (λ_=>([]:Fr)) (λ_=>([]:List (Nat×Blk))) [] [] Q (λz15 hm hz15=>?_) (λj hm=>?_)
    ·refine RS ?_;iterate 5 (refine SA TK Q ?_)
     refine SX Q Q (aM TK Q Q Q) (SA TK Q (TN (WN [1,7,62,63] Q Q (TB (aL hm (λx17=>([(63,.d (.int .i64 x17))]:Fr)) (λx17=>([]:List (Nat×Blk))) [63] [1,7,62] [0] Q k0 Q Q Q Q Q (λx17 z18 hm hz18=>WN [1,7,62,63] Q Q (RS (SA TK Q ?_))))))));refine TN (WN [1,7,62,63,64] Q Q (TQ ?_));refine TC _ Q (λh19=>?_) (λh19=>?_)
     ·replace hm:=JT h19 hm;refine TS (WT (WN [1,7,62,63] Q Q (TQ (TB (RS (SA TK Q (SA TK Q (TN (WN [1,7,8,62,63] Q Q ?_)))))))));refine RS ?_;iterate 6 (refine SA TK Q ?_)
      refine VE hm λe20 he20 hm=>SX Q Q (mM TK Q Q Q Q he20 (Expr.encR_eq _)) (SA TK Q (BE hm λr21 hr21 hm=>SX Q Q (RN Q Q (SC (.d _) (SC (.d _) SN)) (ih hr21)) (SA TK Q (TN (WN [1,7,62,63,75] Q Q ?_)))));refine TC _ Q (λh22=>?_) (λh22=>?_)
      ·replace hm:=JA h22 hm;refine RS (SA TK Q (TN (WN [4] Q Q (TR (WB (WR (IE hm λv23 hm hz=>?_)))))));rw [hz18 _ hz] at hm;refine WR (WB (IE hm λv24 hm hz=>?_));rw [hz15 _ hz] at hm;refine WR (WB (IE hm λv25 hm hz=>?_));rw [hz1 _ hz] at hm;refine WR ?_;obtain rfl:=OJ hm;exact EndsS.one _ Q (.d _) (.refl _)
      replace hm:=JB h22 hm;refine TS (WK (WT (WN [1,7,62,63] Q Q (TG (GE hm λg26 hm=>SX Q Q (aR Q Q Q Q g26) (SA TK Q (TN ?_)))))));refine WT ?_;exact⟨_,[0],(SJ hm),Q,k0,Q⟩
     replace hm:=JF h19 hm;refine aD (WX (IE hm λv27 hm hz=>?_));rw [hz18 _ hz] at hm;refine WX (WH (WT ?_));exact⟨_,[0],(SJ hm),Q,k0,Q⟩
    refine WN [] Q Q (RS (SA TK Q (TN (WN [4] Q Q (TR (WB (IE hm λv28 hm hz=>?_)))))));rw [hz1 _ hz] at hm;refine WR ?_;obtain rfl:=OJ hm;exact EndsS.one _ Q (.d _) (.refl _)
   rw [if_neg h14] at hm;refine SX Q Q (qEP Q qFN Q h14 yY Q) (SA TK Q (SA TK Q (TN (WN [0,1,12,55] Q Q (TC false Q (λh=>by cases h) (λ_=>RS ?_))))));by_cases h29:r2.tid=203
   ·rw [if_pos h29] at hm;refine SX Q Q (qEO Q qFM Q h29) (SA TK Q (SA TK Q (TN (WN [0,1,78,79] Q Q ?_))));refine TC true Q (λ_=>?_) (λh=>by cases h);refine RS (cA 0 Q Q yX Q (SA TK Q (TN (WN [1,9] Q Q ?_))));refine bQ hm (λ_=>([]:Fr)) (λ_=>([]:List (Nat×Blk))) [] [] Q (λz30 hm hz30=>?_) (λj hm=>?_)
    ·refine RS ?_;iterate 5 (refine SA TK Q ?_)
     refine SX Q Q (aM TK Q Q Q) (SA TK Q (TN (WN [1,9,85,86] Q Q (TB (aL hm (λx32=>([(86,.d (.int .i64 x32))]:Fr)) (λx32=>([]:List (Nat×Blk))) [86] [1,9,85] [0] Q k0 Q Q Q Q Q (λx32 z33 hm hz33=>WN [1,9,85,86] Q Q (RS (SA TK Q ?_))))))));refine TN (WN [1,9,85,86,87] Q Q (TQ ?_));refine TC _ Q (λh34=>?_) (λh34=>?_)
     ·replace hm:=JT h34 hm;refine TS (WT (WN [1,9,85,86] Q Q (TQ (TB (RS (SA TK Q (SA TK Q (TN (WN [1,9,10,85,86] Q Q ?_)))))))));refine RS ?_;iterate 6 (refine SA TK Q ?_)
      refine VE hm λe35 he35 hm=>SX Q Q (mM TK Q Q Q Q he35 (Expr.encR_eq _)) (SA TK Q (BE hm λr36 hr36 hm=>SX Q Q (RN Q Q (SC (.d _) (SC (.d _) SN)) (ih hr36)) (TN (WN [1,9,85,86,97] Q Q ?_))));refine TC _ Q (λh37=>?_) (λh37=>?_)
      ·replace hm:=JA h37 hm;refine RS (SA TK Q (TN (WN [4] Q Q (TR (WB (WR (IE hm λv38 hm hz=>?_)))))));rw [hz33 _ hz] at hm;refine WR (WB (IE hm λv39 hm hz=>?_));rw [hz30 _ hz] at hm;refine WR (WB (IE hm λv40 hm hz=>?_));rw [hz1 _ hz] at hm;refine WR ?_;obtain rfl:=OJ hm;exact EndsS.one _ Q (.d _) (.refl _)
      replace hm:=JB h37 hm;refine TS (WK (WT (WN [1,9,85,86] Q Q (TG (GE hm λg41 hm=>SX Q Q (aR Q Q Q Q g41) (SA TK Q (TN ?_)))))));refine WT ?_;exact⟨_,[0],(SJ hm),Q,k0,Q⟩
     replace hm:=JF h34 hm;refine aD (WX (IE hm λv42 hm hz=>?_));rw [hz33 _ hz] at hm;refine WX (WH (WT ?_));exact⟨_,[0],(SJ hm),Q,k0,Q⟩
    refine WN [] Q Q (RS (SA TK Q (TN (WN [4] Q Q (TR (WB (IE hm λv43 hm hz=>?_)))))));rw [hz1 _ hz] at hm;refine WR ?_;obtain rfl:=OJ hm;exact EndsS.one _ Q (.d _) (.refl _)
   rw [if_neg h29] at hm;refine SX Q Q (qEP Q qFM Q h29 yX Q) (SA TK Q (SA TK Q (TN (WN [0,1,78] Q Q (TC false Q (λh=>by cases h) (λ_=>TS (WK (WT ?_))))))));exact⟨_,[],(SJ hm),Q,k0,Q⟩
  refine WN [0] Q Q (RS ?_);iterate 6 (refine SA TK Q ?_)
  refine TN (WN [4] Q Q (TR ?_));obtain rfl:=OJ hm;exact EndsS.one _ Q (.d _) (.refl _)
theorem qCQ {p0:Expr} {p1:(List Bool)} {r:Bool} (hm:uK p0 p1=some r):RetN Tryz.prog 120 [.ptr (p0.enc) 0,.sl 1 (p1.map D.bool)] (.bool (r)):=qAL cZ hm
theorem qCR {p0:Expr} {p1:(List Bool)} {r:Bool} (hm:nY p0 p1=some r):RetN Tryz.prog 52 [p0.enc,.sl 1 (p1.map D.bool)] (.bool (r)):=by
 refine .unit (aF qPI Tryz.func52 Q Tryz.ntmps52 Q Q (λwX gX=>?_)) Q;unfold nY at hm;refine WN [0,1] Q Q (RS (cD 0 Q Q Q (SA TK Q (TN (WN [1,2] Q Q (qFR 0 Q Q Q Q Q (RS (SA TK Q ?_))))))));refine BE hm λr1 hr1 hm=>SX Q Q (RN Q Q (SC (.d _) (SC (.d _) SN)) (qCQ hr1)) (SA TK Q (TN (WN [4] Q Q (TR ?_))));obtain rfl:=OJ hm;exact EndsS.one _ Q (.d _) (.refl _)
theorem tC {p0:Obligation} {p1:Machine} {r:Bool} (hm:gU p0 p1=some r):RetN Tryz.prog 51 [p0.enc,.ptr (p1.enc) 0] (.bool (r)):=by
 refine .unit (aF qPJ Tryz.func51 Q Tryz.ntmps51 Q Q (λwX gX=>?_)) Q;unfold gU at hm;refine WN [0,1] Q Q (RS (cD 0 Q Q Q (SA TK Q (TN (WN [1,2] Q Q (RS ?_))))));iterate 4 (refine SA TK Q ?_)
 refine BE hm λr1 hr1 hm=>SX Q Q (RN Q Q (SC (.d _) (SC (.d _) SN)) (qCR hr1)) (SA TK Q (SA TK Q (TN (WN [3] Q Q (TR ?_)))));obtain rfl:=OJ hm;exact EndsS.one _ Q (.d _) (.refl _)
theorem kI {p0:(List Obligation)} {p1:Obligation→Option Bool} {c1:D} (hf1:∀ a0 r,p1 a0=some r→∃ F cs,qCM c1=some (F,cs)∧RetD Tryz.prog F ([a0.enc]++cs) (.bool (r))) {r:Int} (hm:dZ p0 p1=some r):RetN Tryz.prog 50 [.sl 4 (p0.map Obligation.enc),c1] (.int .i64 r):=by
 refine .unit (aF qPK Tryz.func50 Q Tryz.ntmps50 Q Q (λwX gX=>?_)) Q;unfold dZ at hm;refine WN [0,1] Q Q (RS (SA TK Q (TN (WN [0,1] Q Q ?_))));refine bQ hm (λ_=>([]:Fr)) (λ_=>([]:List (Nat×Blk))) [] [] Q (λz1 hm hz1=>?_) (λj hm=>?_)
 ·refine RS (SA TK Q (SX Q Q (aM TK Q Q Q) (SA TK Q (TN (WN [0,1,7,8] Q Q (TB (aL hm (λx3=>([(8,.d (.int .i64 x3))]:Fr)) (λx3=>([]:List (Nat×Blk))) [8] [0,1,7] [] Q k0 Q Q Q Q Q (λx3 z4 hm hz4=>WN [0,1,7,8] Q Q ?_))))))));refine RS (SA TK Q (TN (WN [0,1,7,8,9] Q Q (TQ ?_))));refine TC _ Q (λh5=>?_) (λh5=>?_)
  ·replace hm:=JT h5 hm;refine TS (WT (WN [0,1,7,8] Q Q (TQ (TB (RS (SA TK Q (SA TK Q (TN (WN [0,1,5,7,8] Q Q ?_)))))))));refine RS (SA TK Q (SA TK Q (SA TK Q (VE hm λe6 he6 hm=>SX Q Q (bA TK Q Q Q Q he6) (SA TK Q (BE hm λr7 hr7 hm=>?_))))));obtain⟨Fr7,csr7,hFr7,hcr7⟩:=hf1 _ _ hr7;refine SX Q Q (qHO Q Q hFr7 Q hcr7) (TN (WN [0,1,5,7,8,16] Q Q ?_));refine TC _ Q (λh8=>?_) (λh8=>?_)
   ·replace hm:=JA h8 hm;refine RS (SA TK Q (SA TK Q (TN (WN [4] Q Q (TR (WB (WR (IE hm λv9 hm hz=>?_))))))));rw [hz4 _ hz] at hm;refine WR (WB (IE hm λv10 hm hz=>?_));rw [hz1 _ hz] at hm;refine WR ?_;obtain rfl:=OJ hm;exact EndsS.one _ Q (.d _) (.refl _)
   replace hm:=JB h8 hm;refine TS (WK (WT (WN [0,1,7,8] Q Q (TG (GE hm λg11 hm=>SX Q Q (aR Q Q Q Q g11) (SA TK Q (TN ?_)))))));refine WT ?_;exact⟨_,[],(SJ hm),Q,k0,Q⟩
  replace hm:=JF h5 hm;refine aD (WX (IE hm λv12 hm hz=>?_));rw [hz4 _ hz] at hm;refine WX (WH (WT ?_));exact⟨_,[],(SJ hm),Q,k0,Q⟩
 refine WN [] Q Q (RS (SA TK Q (TN (WN [4] Q Q (TR ?_)))));obtain rfl:=OJ hm;exact EndsS.one _ Q (.d _) (.refl _)
theorem qC {p0:(List Obligation)} {p1:Machine} {r:Int} (hm:iJ p0 p1=some r):RetN Tryz.prog 18 [.sl 4 (p0.map Obligation.enc),p1.enc] (.int .i64 r):=by
 refine .unit (aF qPY Tryz.func18 Q Tryz.ntmps18 Q Q (λwX gX=>?_)) Q;unfold iJ at hm;refine WN [0,1] Q Q (RS (cD 0 Q Q Q (SA TK Q (TN (WN [0,3] Q Q (qFR 0 Q Q Q Q Q (RS (SA TK Q (SA TK Q ?_)))))))));refine BE hm λr1 hr1 hm=>SX Q Q (RN Q Q (SC (.d _) (SC (.d _) SN)) (kI (λ_ r h=>⟨51,_,Q,(tC h).retD⟩) hr1)) (SA TK Q (TN (WN [4] Q Q (TR ?_))));obtain rfl:=OJ hm;exact EndsS.one _ Q (.d _) (.refl _)
theorem mT {p0:Program} {p1:Expr} {r0:Expr} {r1:Int} (hm:iW p0 p1=some (r0,r1)):Ret Tryz.prog 21 [.flat 64 6 (p0.rungs.map Rung.enc)] (λ_=>false) [.agg [.d (.sl 1 (p0.names.map D.str)),.d (.int .i64 p0.inputs),.msl 0 6 0 p0.rungs.length],.d (p1.enc)] (.tup [.d (r0.enc),.d (.int .i64 r1)]) [.flat 64 6 (p0.rungs.map Rung.enc)]:=by
 refine cE qPW Tryz.func21 Q Tryz.ntmps21 Q Q (λwX gX=>?_);unfold iW at hm;refine WN [0,1] Q Q (RS (cD 1 Q Q Q (cD 2 Q Q Q (cA 3 Q Q aH Q (cK 3 [none,none,some 3] Q Q (SA TK Q (TN (WN [2,3,4] Q Q ?_))))))));refine RS (SA TK Q (SA TK Q (SX Q Q (aM TK Q Q Q) (SA TK Q (TN (WN [2,3,4,6] Q Q (TQ ?_)))))));refine aE hm (λx1=>([(23,.d (.bool (x1)))]:Fr)) (λx1=>([]:List (Nat×Blk))) [23] [2,3,4,6] Q (λz2 hm=>?_) (λx1 hm=>?_)
 ·refine TG (SA TK Q (BE hm λr3 hr3 hm=>SX Q Q (RN Q Q (SC (eF (.cons (.d _) Q (.cons (.d _) Q (.cons (bH Q) Q .nil)))) SN) (qBX hr3)) (SA TK Q (SB TK Q (λq4 hq4=>?_)))));cases q4
  ·replace hm:=fO hq4 hm;refine SA TK Q (SA TK Q (BE hm λr5 hr5 hm=>SX Q Q (RN Q Q (SC (.d _) (SC (.d _) SN)) (oU hr5)) (SA TK Q (SA TK Q (TN (WT ?_))))));exact⟨_,[0,1,2,3],(SJ hm),Q,(kB Q),Q⟩
  replace hm:=fN hq4 hm;iterate 5 (refine SA TK Q ?_)
  refine TN (WT ?_);exact⟨_,[0,1,2,3],(SJ hm),Q,(kB Q),Q⟩
 refine WN [2,3,4,6,23] Q Q ?_;refine TC _ Q (λh6=>?_) (λh6=>?_)
 ·replace hm:=JA h6 hm;refine RS (SX Q Q (bD Q kL aH Q Q Q Q) (qBC 24 [none,none,some 3] Q (SA TK Q (SA TK Q (TN (WN [4,5] Q Q (TR (WR ?_))))))));obtain⟨rfl,rfl⟩:=Prod.mk.inj (Option.some.inj hm);exact⟨_,[0],.mk _ (.cons (.agg (TK.lay Q) Q Q Q Q) (.cons (.tmp 5) .nil)) Q,by decide,(kB Q),Q,Q⟩
 replace hm:=JB h6 hm;refine TS (WT (WN [2,3,4,6] Q Q (RS ?_)));iterate 4 (refine SA TK Q ?_)
 refine GE hm λg7 hm=>SX Q Q (aR Q Q Q Q g7) (SA TK Q (TN (WN [2,3,4,6,7] Q Q (RS (SA TK Q (SX Q Q (bD Q kL aH Q Q Q Q) (qBC 31 [none,none,some 3] Q ?_)))))));refine BE hm λr8 hr8 hm=>SX Q Q (RD Q Q Q (qH hr8)) (cA 4 Q Q aH Q (cK 4 [none,none,some 3] Q Q (SA TK Q (TN (WN [2,4,6,7,8] Q Q ?_)))));refine bQ hm (λ(c9,c10,c11)=>([]:Fr)) (λ(c9,c10,c11)=>([(4,.box 40 [.d (.int .i64 c9),.d (.int .i64 c10),.d (.sl 3 (c11.map Expr.encR))])]:List (Nat×Blk))) [] [4,8] Q (λz12 hm hz12=>?_) (λj hm=>?_)
 ·refine RS (SA TK Q (SA TK Q (SA TK Q (GE hm λg13 hm=>SX Q Q (aR Q Q Q Q g13) (SA TK Q (TN (WN [2,4,6,7,8,9] Q Q (TB (aL hm (λ(i19,c20,c21,c22)=>([(9,.d (.int .i64 i19))]:Fr)) (λ(i19,c20,c21,c22)=>([(4,.box 40 [.d (.int .i64 c20),.d (.int .i64 c21),.d (.sl 3 (c22.map Expr.encR))])]:List (Nat×Blk))) [9] [2,4,6,7,8] [0,1,2,3,4] Q (kB Q) Q Q Q Q Q (λs z23 hm hz23=>?_))))))))));obtain⟨i19,c20,c21,c22⟩:=s;refine WN [2,4,6,7,8,9] Q Q (TQ (RS (SA TK Q (SA TK Q (TN (WN [2,4,6,7,8,9,38] Q Q ?_))))));refine TC _ Q (λh24=>?_) (λh24=>?_)
  ·replace hm:=JT h24 hm;refine TS (WT (WN [2,4,6,7,8,9] Q Q (TQ (TB (RS (SA TK Q (SA TK Q (SA TK Q (VE hm λe25 he25 hm=>SX Q Q (oX TK Q Q Q Q he25 Q) ?_)))))))));refine SX Q Q (rI TK Q Q Q Q he25.2 Q) (cA 5 Q Q jF Q (cK 5 [none,none,none,none,none,some 3] Q Q (SA TK Q (TN (WN [2,4,6,7,8,9,10] Q Q (RS (SA TK Q (SA TK Q (cA 6 Q Q aH Q ?_)))))))));refine cK 6 [none,none,some 3] Q Q (SA TK Q (TN (WN [2,4,6,7,8,9,10,11] Q Q ?_)));refine aE hm (λ(c26,c27,c28)=>([]:Fr)) (λ(c26,c27,c28)=>([(6,.box 40 [.d (.int .i64 c26),.d (.int .i64 c27),.d (.sl 3 (c28.map Expr.encR))])]:List (Nat×Blk))) [] [2,4,6,7,8,9,10,11] Q (λz29 hm=>?_) (λj hm=>?_)
   ·refine RS (SA TK Q (SA TK Q (SA TK Q (TN (WN [2,4,6,7,8,9,10,11,50] Q Q ?_)))));refine TC _ Q (λh30=>?_) (λh30=>?_)
    ·replace hm:=JT h30 hm;refine TG (SA TK Q (SA TK Q (GE hm λg31 hm=>SX Q Q (aR Q Q Q Q g31) (SX Q Q (bD Q kL aH Q Q Q Q) (qBC 54 [none,none,some 3] Q (SA TK Q (TN (WT ?_))))))));exact⟨_,[0,1,2,3,4,5,6],(SJ hm),Q,(kB Q),Q⟩
    replace hm:=JF h30 hm;refine TS (WT ?_);exact⟨_,[0,1,2,3,4,5,6],(SJ hm),Q,(kB Q),Q⟩
   obtain⟨c26,c27,c28⟩:=j;refine WN [2,4,6,7,8,9,10,11] Q Q (TQ (bB follows  (DA [0,1,2,3,4,5,6] TK Q (BE hm λr32 hr32 hm=>DX [0,1,2,3,4,5,6] Q Q (RN Q Q (SC (.d _) SN) (uZ hr32)) ?_))));iterate 3 (refine DA [0,1,2,3,4,5,6] TK Q ?_)
   refine BE hm λr33 hr33 hm=>DX [0,1,2,3,4,5,6] Q Q (RN Q Q (SC (.d _) (SC (.d _) SN)) (vJ hr33)) (DA [0,1,2,3,4,5,6] TK Q (BE hm λr34 hr34 hm=>DX [0,1,2,3,4,5,6] Q Q (RN Q Q (SC (.d _) SN) (uZ hr34)) (GE hm λg35 hm=>DX [0,1,2,3,4,5,6] Q Q (aR Q Q Q Q g35) (GE hm λg36 hm=>DX [0,1,2,3,4,5,6] Q Q (aR Q Q Q Q g36) ?_))));refine GE hm λg37 hm=>DX [0,1,2,3,4,5,6] Q Q (aR Q Q Q Q g37) (DA [0,1,2,3,4,5,6] TK Q ?_);refine DT ?_ (by kernel_rfl);refine TN (WN [2,4,6,7,8,9,10,11,66] Q Q ?_);refine TC _ Q (λh38=>?_) (λh38=>?_)
   ·replace hm:=JT h38 hm;refine RS (SX Q Q (bD Q kL aH Q Q Q Q) (qBC 67 [none,none,some 3] Q (SA TK Q (SA TK Q (TN (WN [4,5] Q Q (TR (WR (WB ?_)))))))));refine WR (IE hm λv39 hm hz=>?_);rw [hz23 _ hz] at hm;refine WR (WB (IE hm λv40 hm hz=>?_));rw [hz12 _ hz] at hm;refine WR ?_;obtain⟨rfl,rfl⟩:=Prod.mk.inj (Option.some.inj hm);exact⟨_,[0],.mk _ (.cons (.agg (TK.lay Q) Q Q Q Q) (.cons (.tmp 5) .nil)) Q,by decide,(kB Q),Q,Q⟩
   replace hm:=JF h38 hm;refine TS (WT (WN [2,4,6,7,8,9,10,11] Q Q (RS ?_)));iterate 4 (refine SA TK Q ?_)
   refine BE hm λr41 hr41 hm=>SX Q Q (RD Q Q Q (qH hr41)) (SA TK Q (TN (WN [2,4,6,7,8,9] Q Q (RS (SA TK Q (SA TK Q (BE hm λr42 hr42 hm=>SX Q Q (RN Q Q (SC (.d _) (SC (.d _) SN)) (oU hr42)) ?_)))))));refine SA TK Q (TN (WN [2,4,6,7,8,9,76] Q Q ?_));refine TC _ Q (λh43=>?_) (λh43=>?_)
   ·replace hm:=JA h43 hm;refine RS (SX Q Q (bD Q kL aH Q Q Q Q) (qBC 77 [none,none,some 3] Q (SA TK Q (SA TK Q (TN (WN [4,5] Q Q (TR (WB (WR ?_)))))))));refine IE hm λv44 hm hz=>?_;rw [hz23 _ hz] at hm;refine WR (WB (IE hm λv45 hm hz=>?_));rw [hz12 _ hz] at hm;refine WR ?_;obtain⟨rfl,rfl⟩:=Prod.mk.inj (Option.some.inj hm);exact⟨_,[0],.mk _ (.cons (.agg (TK.lay Q) Q Q Q Q) (.cons (.tmp 5) .nil)) Q,by decide,(kB Q),Q,Q⟩
   replace hm:=JB h43 hm;refine TS (WK (WT (WN [2,4,6,7,8,9] Q Q (TG (SA TK Q (GE hm λg46 hm=>SX Q Q (aR Q Q Q Q g46) (SA TK Q ?_)))))));refine TN (WT ?_);exact⟨_,[0,1,2,3,4],(SJ hm),Q,(kB Q),Q⟩
  replace hm:=JF h24 hm;refine aD (WX (IE hm λv47 hm hz=>?_));rw [hz23 _ hz] at hm;refine WX (WH (WT ?_));exact⟨_,[0,1,2,3,4],(SJ hm),Q,(kB Q),Q⟩
 obtain⟨c9,c10,c11⟩:=j;refine WN [4,8] Q Q (RS (SA TK Q (SA TK Q (SA TK Q (TN (WN [4,5] Q Q (TR ?_)))))));obtain⟨rfl,rfl⟩:=Prod.mk.inj (Option.some.inj hm);exact⟨_,[0],.mk _ (.cons (.agg (TK.lay Q) Q Q Q Q) (.cons (.tmp 5) .nil)) Q,by decide,(kB Q),Q,Q⟩
theorem nJ  {r:Bool} (hm:jD=some r):RetN Tryz.prog 10 [] (.bool (r)):=by
 refine .unit (aF qQC Tryz.func10 Q Tryz.ntmps10 Q Q (λwX gX=>?_)) Q;unfold jD at hm;refine WN [] Q Q (RS (SA TK Q (TN (WN [] Q Q (RS (BE hm λr1 hr1 hm=>SX Q Q (RD Q Q Q (qAD hr1)) (BE hm λr2 hr2 hm=>?_)))))));obtain⟨r3,r4⟩:=r2;refine SX Q Q (dX Q Q Q (xU hr2)) (SA TK Q (SA TK Q (SA TK Q (cA 0 Q Q wC Q (cK 0 [some 14,some 1,some 1,none,none] Q Q (SA TK Q (SA TK Q (TN (WN [1] Q Q (RS (SA TK Q ?_)))))))))));refine BE hm λr5 hr5 hm=>?_;obtain⟨r6,r7⟩:=r5;refine SX Q Q (dX Q Q Q (qAA hr5)) ?_;iterate 5 (refine SA TK Q ?_)
 refine TN (WN [3,4] Q Q (RS (SX Q Q (cI [.const (Value.string ⟨#[97]⟩),.const (Value.string ⟨#[98]⟩)] TK Q Q iK Q Q Q Q Q) (BE hm λr8 hr8 hm=>SX Q Q (RD Q Q Q (nW hr8)) (SX Q Q (bD Q qEY jF Q Q Q Q) (wE (f:=Rung.enc) 1 [.tmp 22] ([(⟨(1:Int),(1:Int),(0:Int),r8⟩:Rung)]:List Rung) TK Q Q Q jF Q Q Q Q Q (SX Q Q (fL Q qHS tP Q Q Q Q) ?_)))))));refine cA 2 Q Q tP Q (dN (f:=Rung.enc) 2 2 3 64 6 Q Q Q (cK 2 [some 1,none,none] Q Q (SA TK Q (TN (WN [3,4,5] Q Q (dW (bB follows  (DA [2] TK Q ?_))))))));refine BE hm λr9 hr9 hm=>DX [] Q Q (RD Q Q Q (nW hr9)) (BE hm λr10 hr10 hm=>?_);obtain⟨r11,r12⟩:=r10;refine DX [1] Q Q (aN [1] ⟨Q,Q,λ_=>Q⟩ Q Q Q (by decide) Q (aG Q) Q Q (mT hr10)) ?_;iterate 3 (refine DA [] TK Q ?_)
 refine nK [4] _ (.mptr 4 0 0 0) Q (fG Q) Q (kE Q Q aH Q Q) (qCS 1000002 [4] [(4,.box 40 [.d (.int .i64 r11.op),.d (.int .i64 r11.var),.d (.sl 3 (r11.args.map Expr.encR))])] (fG Q) Q (pG TK Q Q Q Q Q Q Q Q Q Q) ?_);refine DT ?_ (by kernel_rfl);refine SA TK Q (TN (WN [3,4,5,6,7] Q Q (RS (SA TK Q (SA TK Q (VE hm λe13 he13 hm=>SX Q Q (oX TK Q Q Q Q he13 Q) (SA TK Q (qEW (x':=(⟨(2:Int),e13.var,e13.preset,e13.expr⟩:Rung)) TK Q Q Q Q Q he13.2 Q Q Q ?_))))))));refine yR 32 (([(⟨(1:Int),(1:Int),(0:Int),r8⟩:Rung)]:List Rung).set (0:Int).toNat (⟨(2:Int),e13.var,e13.preset,e13.expr⟩:Rung)).length Q List.length_set.symm ?_;refine qQO 2 [.d (.sl 1 (([(⟨#[97]⟩:ByteArray),(⟨#[98]⟩:ByteArray)]:List ByteArray).map D.str)),.d (.int .i64 (1:Int)),.msl 1 6 0 (([(⟨(1:Int),(1:Int),(0:Int),r8⟩:Rung)]:List Rung).set (0:Int).toNat (⟨(2:Int),e13.var,e13.preset,e13.expr⟩:Rung)).length] Q (by simp only [List.length_set]<;>rfl) ?_;refine TN (WN [3,4,5,6,7] Q Q (RS (SA TK Q (SA TK Q (VE hm λe14 he14 hm=>SX Q Q (oX TK Q Q Q Q he14 Q) (SA TK Q (qEW (x':=(⟨e14.kind,e14.var,(2:Int),e14.expr⟩:Rung)) TK Q Q Q Q Q he14.2 Q Q Q (yR 36 ((([(⟨(1:Int),(1:Int),(0:Int),r8⟩:Rung)]:List Rung).set (0:Int).toNat (⟨(2:Int),e13.var,e13.preset,e13.expr⟩:Rung)).set (0:Int).toNat (⟨e14.kind,e14.var,(2:Int),e14.expr⟩:Rung)).length Q List.length_set.symm ?_))))))));refine qQO 2 [.d (.sl 1 (([(⟨#[97]⟩:ByteArray),(⟨#[98]⟩:ByteArray)]:List ByteArray).map D.str)),.d (.int .i64 (1:Int)),.msl 1 6 0 ((([(⟨(1:Int),(1:Int),(0:Int),r8⟩:Rung)]:List Rung).set (0:Int).toNat (⟨(2:Int),e13.var,e13.preset,e13.expr⟩:Rung)).set (0:Int).toNat (⟨e14.kind,e14.var,(2:Int),e14.expr⟩:Rung)).length] Q (by simp only [List.length_set]<;>rfl) ?_;refine TN (WN [3,4,5,6,7] Q Q (dW (bB follows  (DA [2] TK Q (BE hm λr15 hr15 hm=>DX [] Q Q (RD Q Q Q (nW hr15)) (BE hm λr16 hr16 hm=>?_))))));obtain⟨r17,r18⟩:=r16;refine DX [1] Q Q (aN [1] ⟨Q,Q,λ_=>Q⟩ Q Q Q (by decide) Q (aG Q) Q Q (mT hr16)) ?_;iterate 3 (refine DA [] TK Q ?_)
 refine nK [5] _ (.mptr 5 0 0 0) Q (fG Q) Q (kE Q Q aH Q Q) (qCS 1000004 [5] [(5,.box 40 [.d (.int .i64 r17.op),.d (.int .i64 r17.var),.d (.sl 3 (r17.args.map Expr.encR))])] (fG Q) Q (pG TK Q Q Q Q Q Q Q Q Q Q) ?_);refine DT ?_ (by kernel_rfl);refine SA TK Q (TN (WN [3,4,6,7,8,9] Q Q ?_));refine aE hm (λx19=>([(0,.d (.bool (x19)))]:Fr)) (λx19=>([]:List (Nat×Blk))) [0] [] Q (λz20 hm=>?_) (λx19 hm=>?_)
 ·refine bP follows  ?_;iterate 2 (refine DA [0,1,2,3,4,5] TK Q ?_)
  refine d_b [0,1,2,3,4,5] TK Q (λq21 hq21=>?_);cases q21
  ·replace hm:=JF hq21 hm;iterate 42 (refine DA [0,1,2,3,4,5] TK Q ?_)
   refine DT ?_ (by kernel_rfl);refine SA TK Q (TN (WT ?_));exact⟨_,[0,1,2,3,4,5],(SJ hm),Q,k0,Q⟩
  replace hm:=JT hq21 hm;refine DA [0,1,2,3,4,5] TK Q (DX [0,1,2,3,4,5] Q Q (aM TK Q Q Q) ?_);iterate 2 (refine DA [0,1,2,3,4,5] TK Q ?_)
  refine d_b [0,1,2,3,4,5] TK Q (λq22 hq22=>?_);cases q22
  ·replace hm:=JF hq22 hm;iterate 37 (refine DA [0,1,2,3,4,5] TK Q ?_)
   refine DT ?_ (by kernel_rfl);refine SA TK Q (TN (WT ?_));exact⟨_,[0,1,2,3,4,5],(SJ hm),Q,k0,Q⟩
  replace hm:=JT hq22 hm;refine DA [0,1,2,3,4,5] TK Q (VE hm λe23 he23 hm=>DX [0,1,2,3,4,5] Q Q (bA TK Q Q Q Q he23) ?_);iterate 4 (refine DA [0,1,2,3,4,5] TK Q ?_)
  refine d_b [0,1,2,3,4,5] TK Q (λq24 hq24=>?_);cases q24
  ·replace hm:=JF hq24 hm;iterate 30 (refine DA [0,1,2,3,4,5] TK Q ?_)
   refine DT ?_ (by kernel_rfl);refine SA TK Q (TN (WT ?_));exact⟨_,[0,1,2,3,4,5],(SJ hm),Q,k0,Q⟩
  replace hm:=JT hq24 hm;refine DA [0,1,2,3,4,5] TK Q (VE hm λe25 he25 hm=>DX [0,1,2,3,4,5] Q Q (bA TK Q Q Q Q he25) ?_);iterate 4 (refine DA [0,1,2,3,4,5] TK Q ?_)
  refine d_b [0,1,2,3,4,5] TK Q (λq26 hq26=>?_);cases q26
  ·replace hm:=JF hq26 hm;iterate 23 (refine DA [0,1,2,3,4,5] TK Q ?_)
   refine DT ?_ (by kernel_rfl);refine SA TK Q (TN (WT ?_));exact⟨_,[0,1,2,3,4,5],(SJ hm),Q,k0,Q⟩
  replace hm:=JT hq26 hm;iterate 3 (refine DA [0,1,2,3,4,5] TK Q ?_)
  refine d_b [0,1,2,3,4,5] TK Q (λq27 hq27=>?_);cases q27
  ·replace hm:=JF hq27 hm;iterate 19 (refine DA [0,1,2,3,4,5] TK Q ?_)
   refine DT ?_ (by kernel_rfl);refine SA TK Q (TN (WT ?_));exact⟨_,[0,1,2,3,4,5],(SJ hm),Q,k0,Q⟩
  replace hm:=JT hq27 hm;refine DA [0,1,2,3,4,5] TK Q (BE hm λr28 hr28 hm=>DX [0,1,2,3,4,5] Q Q (RD Q Q Q (nW hr28)) (BE hm λr29 hr29 hm=>DX [0,1,2,3,4,5] Q Q (RN Q Q (SC (.d _) (SC (.d _) SN)) (sT hr29)) (DA [0,1,2,3,4,5] TK Q (d_b [0,1,2,3,4,5] TK Q (λq30 hq30=>?_)))));cases q30
  ·replace hm:=JB hq30 hm;iterate 14 (refine DA [0,1,2,3,4,5] TK Q ?_)
   refine DT ?_ (by kernel_rfl);refine SA TK Q (TN (WT ?_));exact⟨_,[0,1,2,3,4,5],(SJ hm),Q,k0,Q⟩
  replace hm:=JA hq30 hm;iterate 3 (refine DA [0,1,2,3,4,5] TK Q ?_)
  refine d_b [0,1,2,3,4,5] TK Q (λq31 hq31=>?_);cases q31
  ·replace hm:=JF hq31 hm;iterate 10 (refine DA [0,1,2,3,4,5] TK Q ?_)
   refine DT ?_ (by kernel_rfl);refine SA TK Q (TN (WT ?_));exact⟨_,[0,1,2,3,4,5],(SJ hm),Q,k0,Q⟩
  replace hm:=JT hq31 hm;refine DA [0,1,2,3,4,5] TK Q (BE hm λr32 hr32 hm=>DX [0,1,2,3,4,5] Q Q (RD Q Q Q (nW hr32)) (BE hm λr33 hr33 hm=>DX [0,1,2,3,4,5] Q Q (RN Q Q (SC (.d _) (SC (.d _) SN)) (sT hr33)) (DA [0,1,2,3,4,5] TK Q (d_b [0,1,2,3,4,5] TK Q (λq34 hq34=>?_)))));cases q34
  ·replace hm:=JB hq34 hm;iterate 5 (refine DA [0,1,2,3,4,5] TK Q ?_)
   refine DT ?_ (by kernel_rfl);refine SA TK Q (TN (WT ?_));exact⟨_,[0,1,2,3,4,5],(SJ hm),Q,k0,Q⟩
  replace hm:=JA hq34 hm;refine DA [0,1,2,3,4,5] TK Q (DX [0,1,2,3,4,5] Q Q (bD Q plc47 zero47 Q Q Q Q) (BE hm λr35 hr35 hm=>DX [0,1,2,3,4,5] Q Q (RN Q Q (SC (.d _) (SC (.d _) SN)) ((qC hr35).args ((.cons (.refl _) (.cons (.agg (.cons (.nil _) Q (.cons (.nil _) Q (.cons (.refl _) Q .nil)))) .nil))))) ?_));iterate 2 (refine DA [0,1,2,3,4,5] TK Q ?_)
  refine DT ?_ (by kernel_rfl);refine SA TK Q (TN (WT ?_));exact⟨_,[0,1,2,3,4,5],(SJ hm),Q,k0,Q⟩
 refine WN [0] Q Q (TR ?_);obtain rfl:=OJ hm;exact EndsS.one _ Q (.d _) (.refl _)
theorem xR:∀ (fu:Nat) {p0:Expr} {r:Int} (hm:gI fu p0=some r),RetN Tryz.prog 17 [p0.enc] (.int .i64 r):=by
 intro fu
 induction fu with
 | zero=>
  intro p0 r hm;unfold gI at hm;cases hm
 | succ fu ih=>
  intro p0 r hm;refine .unit (aF qPZ Tryz.func17 Q Tryz.ntmps17 Q Q (λwX gX=>?_)) Q;unfold gI at hm;refine WN [0] Q Q (RS (cD 0 Q Q Q (SA TK Q (TN (WN [1] Q Q (RS (SA TK Q (TN ?_))))))));refine WN [1,3] Q Q ?_;refine aE hm (λn1=>([(3,.d (.int .i64 n1))]:Fr)) (λn1=>([]:List (Nat×Blk))) [3] [] Q (λz2 hm=>?_) (λn1 hm=>?_)
  ·refine RS (SA TK Q (TN (WN [1,3,4] Q Q (TB (aL hm (λ(n5,i6)=>([(3,.d (.int .i64 n5)),(4,.d (.int .i64 i6))]:Fr)) (λ(n5,i6)=>([]:List (Nat×Blk))) [3,4] [1] [0] Q k0 Q Q Q Q Q (λs z7 hm hz7=>?_))))));obtain⟨n5,i6⟩:=s;refine WN [1,3,4] Q Q (TQ (RS (SA TK Q (SA TK Q (SA TK Q (SX Q Q (aM TK Q Q Q) (SA TK Q (TN (WN [1,3,4,9] Q Q ?_)))))))));refine TC _ Q (λh8=>?_) (λh8=>?_)
   ·replace hm:=JT h8 hm;refine TS (WT (WN [1,3,4] Q Q (TQ (TB (TG ?_)))));iterate 4 (refine SA TK Q ?_)
    refine VE hm λe9 he9 hm=>SX Q Q (mM TK Q Q Q Q he9 (Expr.encR_eq _)) (SA TK Q (BE hm λr10 hr10 hm=>SX Q Q (RN Q Q (SC (.d _) SN) (ih hr10)) (GE hm λg11 hm=>SX Q Q (aR Q Q Q Q g11) (SA TK Q (TN ?_)))));refine WK (WT (WN [1,3,4] Q Q (TG (SA TK Q (GE hm λg12 hm=>SX Q Q (aR Q Q Q Q g12) (SA TK Q (TN ?_)))))));refine WT ?_;exact⟨_,[0],(SJ hm),Q,k0,Q⟩
   replace hm:=JF h8 hm;refine aD (WX (IE hm λv13 hm hz=>?_));rw [hz7 _ hz] at hm;refine WX (WH (WT ?_));exact⟨_,[0],(SJ hm),Q,k0,Q⟩
  refine WN [3] Q Q (RS (SA TK Q (SA TK Q (TN (WN [2] Q Q (TR ?_))))));obtain rfl:=OJ hm;exact EndsS.one _ Q (.d _) (.refl _)
theorem zF {p0:Expr} {r:Int} (hm:lU p0=some r):RetN Tryz.prog 17 [p0.enc] (.int .i64 r):=xR cZ hm
theorem xT:∀ (fu:Nat) {p0:Expr} {p1:(List Bool)} {r:Bool} (hm:fA fu p0 p1=some r),RetN Tryz.prog 16 [p0.enc,.sl 1 (p1.map D.bool)] (.bool (r)):=by
 intro fu
 induction fu with
 | zero=>
  intro p0 p1 r hm;unfold fA at hm;cases hm
 | succ fu ih=>
  intro p0 p1 r hm;refine .unit (aF qQA Tryz.func16 Q Tryz.ntmps16 Q Q (λwX gX=>?_)) Q;unfold fA at hm;refine WN [0,1] Q Q (RS (cD 0 Q Q Q (SA TK Q (TN (WN [1,2] Q Q ?_)))));refine bQ hm (λ_=>([]:Fr)) (λ_=>([]:List (Nat×Blk))) [] [] Q (λz1 hm hz1=>?_) (λj hm=>?_)
  ·refine RS (SA TK Q (SA TK Q (TN (WN [1,2,7] Q Q (TB (RS (SA TK Q (SA TK Q (TN (WN [1,2,7,8] Q Q ?_))))))))));refine TC _ Q (λh2=>?_) (λh2=>?_)
   ·replace hm:=JT h2 hm;refine RS (SA TK Q (TN (WN [4] Q Q (TR (WB (IE hm λv3 hm hz=>?_))))));rw [hz1 _ hz] at hm;refine WR ?_;obtain rfl:=OJ hm;exact EndsS.one _ Q (.d _) (.refl _)
   replace hm:=JF h2 hm;refine RS (SA TK Q (SA TK Q (TN (WN [1,2,7,10] Q Q ?_))));refine TC _ Q (λh4=>?_) (λh4=>?_)
   ·replace hm:=JT h4 hm;refine aE hm (λx5=>([(4,.d (.bool (x5)))]:Fr)) (λx5=>([]:List (Nat×Blk))) [4] [] Q (λz6 hm=>?_) (λx5 hm=>?_)
    ·refine TG (SA TK Q (SA TK Q (SA TK Q (SB TK Q (λq7 hq7=>?_)))));cases q7
     ·replace hm:=JF hq7 hm;iterate 14 (refine SA TK Q ?_)
      refine TN (WT ?_);exact⟨_,[0],(SJ hm),Q,k0,Q⟩
     replace hm:=JT hq7 hm;refine SA TK Q (SA TK Q (SA TK Q (SX Q Q (aM TK Q Q Q) (SA TK Q (SA TK Q (SB TK Q (λq8 hq8=>?_)))))));cases q8
     ·replace hm:=JF hq8 hm;iterate 7 (refine SA TK Q ?_)
      refine TN (WT ?_);exact⟨_,[0],(SJ hm),Q,k0,Q⟩
     replace hm:=JT hq8 hm;refine SA TK Q (SA TK Q (SA TK Q (VE hm λe9 he9 hm=>SX Q Q (bA TK Q Q Q Q he9) (SA TK Q (SA TK Q (SA TK Q (TN (WT ?_))))))));exact⟨_,[0],(SJ hm),Q,k0,Q⟩
    refine WN [4] Q Q (TR (WB (IE hm λv10 hm hz=>?_)));rw [hz1 _ hz] at hm;refine WR ?_;obtain rfl:=OJ hm;exact EndsS.one _ Q (.d _) (.refl _)
   replace hm:=JF h4 hm;refine RS (SA TK Q (SA TK Q (TN (WN [1,2,7,29] Q Q ?_))));refine TC _ Q (λh11=>?_) (λh11=>?_)
   ·replace hm:=JT h11 hm;refine aE hm (λx12=>([(4,.d (.bool (x12)))]:Fr)) (λx12=>([]:List (Nat×Blk))) [4] [] Q (λz13 hm=>?_) (λx12 hm=>?_)
    ·refine TG (SA TK Q (SA TK Q (SX Q Q (aM TK Q Q Q) (SA TK Q (SB TK Q (λq14 hq14=>?_))))));cases q14
     ·replace hm:=JF hq14 hm;iterate 9 (refine SA TK Q ?_)
      refine TN (WT ?_);exact⟨_,[0],(SJ hm),Q,k0,Q⟩
     replace hm:=JT hq14 hm;refine SA TK Q (SA TK Q (VE hm λe15 he15 hm=>SX Q Q (mM TK Q Q Q Q he15 (Expr.encR_eq _)) (SA TK Q (SA TK Q (BE hm λr16 hr16 hm=>SX Q Q (RN Q Q (SC (.d _) (SC (.d _) SN)) (ih hr16)) (SA TK Q (SA TK Q (SA TK Q (TN (WT ?_))))))))));exact⟨_,[0],(SJ hm),Q,k0,Q⟩
    refine WN [4] Q Q (TR (WB (IE hm λv17 hm hz=>?_)));rw [hz1 _ hz] at hm;refine WR ?_;obtain rfl:=OJ hm;exact EndsS.one _ Q (.d _) (.refl _)
   replace hm:=JF h11 hm;refine aE hm (λx18=>([(44,.d (.bool (x18)))]:Fr)) (λx18=>([]:List (Nat×Blk))) [44] [1,2] Q (λz19 hm=>?_) (λx18 hm=>?_)
   ·refine RS (SA TK Q (SA TK Q (TN (WN [1,2,7,44] Q Q ?_))));refine TC _ Q (λh20=>?_) (λh20=>?_)
    ·replace hm:=JT h20 hm;refine TS (WT ?_);exact⟨_,[0],(SJ hm),Q,k0,Q⟩
    replace hm:=JF h20 hm;refine TG (SA TK Q (SA TK Q (TN (WT ?_))));exact⟨_,[0],(SJ hm),Q,k0,Q⟩
   refine WN [1,2,44] Q Q ?_;refine TC _ Q (λh21=>?_) (λh21=>?_)
   ·replace hm:=JA h21 hm;refine bQ hm (λ_=>([]:Fr)) (λ_=>([]:List (Nat×Blk))) [] [2] Q (λz22 hm hz22=>?_) (λj hm=>?_)
    ·refine RS (SA TK Q (TN (WN [1,2,5] Q Q (TB (aL hm (λi24=>([(5,.d (.int .i64 i24))]:Fr)) (λi24=>([]:List (Nat×Blk))) [5] [1,2] [0] Q k0 Q Q Q Q Q (λi24 z25 hm hz25=>WN [1,2,5] Q Q (TQ (RS ?_))))))));refine SA TK Q (SA TK Q (SA TK Q (SX Q Q (aM TK Q Q Q) (SA TK Q (TN (WN [1,2,5,51] Q Q ?_))))));refine TC _ Q (λh26=>?_) (λh26=>?_)
     ·replace hm:=JT h26 hm;refine TS (WT (WN [1,2,5] Q Q (TQ (TB (bB follows  ?_)))));iterate 3 (refine DA [0] TK Q ?_)
      refine VE hm λe27 he27 hm=>DX [0] Q Q (mM TK Q Q Q Q he27 (Expr.encR_eq _)) ?_;iterate 2 (refine DA [0] TK Q ?_)
      refine BE hm λr28 hr28 hm=>DX [0] Q Q (RN Q Q (SC (.d _) (SC (.d _) SN)) (ih hr28)) ?_;iterate 4 (refine DA [0] TK Q ?_)
      refine DT ?_ (by kernel_rfl);refine TN (WN [1,2,5,64] Q Q ?_);refine TC _ Q (λh29=>?_) (λh29=>?_)
      ·replace hm:=JA h29 hm;refine RS ?_;iterate 4 (refine SA TK Q ?_)
       refine TN (WN [4] Q Q (TR (WB (WR (IE hm λv30 hm hz=>?_)))));rw [hz25 _ hz] at hm;refine WR (WB (IE hm λv31 hm hz=>?_));rw [hz22 _ hz] at hm;refine WR (WB (IE hm λv32 hm hz=>?_));rw [hz1 _ hz] at hm;refine WR ?_;obtain rfl:=OJ hm;exact EndsS.one _ Q (.d _) (.refl _)
      replace hm:=JB h29 hm;refine TS (WK (WT (WN [1,2,5] Q Q (TG (SA TK Q (GE hm λg33 hm=>SX Q Q (aR Q Q Q Q g33) (SA TK Q ?_)))))));refine TN (WT ?_);exact⟨_,[0],(SJ hm),Q,k0,Q⟩
     replace hm:=JF h26 hm;refine aD (WX (IE hm λv34 hm hz=>?_));rw [hz25 _ hz] at hm;refine WX (WH (WT ?_));exact⟨_,[0],(SJ hm),Q,k0,Q⟩
    refine WN [2] Q Q (RS ?_);iterate 4 (refine SA TK Q ?_)
    refine TN (WN [4] Q Q (TR (WB (IE hm λv35 hm hz=>?_))));rw [hz1 _ hz] at hm;refine WR ?_;obtain rfl:=OJ hm;exact EndsS.one _ Q (.d _) (.refl _)
   replace hm:=JB h21 hm;refine TS (WK (WT ?_));exact⟨_,[0],(SJ hm),Q,k0,Q⟩
  refine WN [] Q Q (RS (SA TK Q (TN (WN [4] Q Q (TR ?_)))));obtain rfl:=OJ hm;exact EndsS.one _ Q (.d _) (.refl _)
theorem zG {p0:Expr} {p1:(List Bool)} {r:Bool} (hm:iA p0 p1=some r):RetN Tryz.prog 16 [p0.enc,.sl 1 (p1.map D.bool)] (.bool (r)):=xT cZ hm
theorem xQ {p0:(List Obligation)} {p1:Machine} {r:Int} (hm:kJ p0 p1=some r):RetN Tryz.prog 19 [.sl 4 (p0.map Obligation.enc),p1.enc] (.int .i64 r):=by
 refine .unit (aF qPX Tryz.func19 Q Tryz.ntmps19 Q Q (λwX gX=>?_)) Q;unfold kJ at hm;refine WN [0,1] Q Q (RS (cD 0 Q Q Q (SA TK Q (TN (WN [0,3] Q Q ?_)))));refine bQ hm (λ_=>([]:Fr)) (λ_=>([]:List (Nat×Blk))) [] [] Q (λz1 hm hz1=>?_) (λj hm=>?_)
 ·refine RS (SA TK Q (SX Q Q (aM TK Q Q Q) (SA TK Q (TN (WN [3,7,8,9] Q Q (TB (aL hm (λx3=>([(9,.d (.int .i64 x3))]:Fr)) (λx3=>([]:List (Nat×Blk))) [9] [3,7,8] [0] Q k0 Q Q Q Q Q (λx3 z4 hm hz4=>WN [3,7,8,9] Q Q ?_))))))));refine RS (SA TK Q (TN (WN [3,7,8,9,10] Q Q (TQ ?_))));refine TC _ Q (λh5=>?_) (λh5=>?_)
  ·replace hm:=JT h5 hm;refine TS (WT (WN [3,7,8,9] Q Q (TQ (TB (RS (SA TK Q (VE hm λe6 he6 hm=>SX Q Q (bA TK Q Q Q Q he6) ?_)))))));refine SA TK Q (cA 1 Q Q tQ Q (cK 1 [none,none,none,some 3] Q Q (SA TK Q (SA TK Q (TN (WN [3,5,6,7,8,9] Q Q (RS ?_)))))));iterate 4 (refine SA TK Q ?_)
   refine BE hm λr7 hr7 hm=>SX Q Q (RN Q Q (SC (.d _) (SC (.d _) SN)) (zG hr7)) (SA TK Q (TN (WN [3,5,7,8,9,19] Q Q ?_)));refine TC _ Q (λh8=>?_) (λh8=>?_)
   ·replace hm:=JA h8 hm;refine RS (SA TK Q (SA TK Q (TN (WN [4] Q Q (TR (WB (WR (IE hm λv9 hm hz=>?_))))))));rw [hz4 _ hz] at hm;refine WR (WB (IE hm λv10 hm hz=>?_));rw [hz1 _ hz] at hm;refine WR ?_;obtain rfl:=OJ hm;exact EndsS.one _ Q (.d _) (.refl _)
   replace hm:=JB h8 hm;refine TS (WK (WT (WN [3,7,8,9] Q Q (TG (GE hm λg11 hm=>SX Q Q (aR Q Q Q Q g11) (SA TK Q (TN ?_)))))));refine WT ?_;exact⟨_,[0],(SJ hm),Q,k0,Q⟩
  replace hm:=JF h5 hm;refine aD (WX (IE hm λv12 hm hz=>?_));rw [hz4 _ hz] at hm;refine WX (WH (WT ?_));exact⟨_,[0],(SJ hm),Q,k0,Q⟩
 refine WN [] Q Q (RS (SA TK Q (TN (WN [4] Q Q (TR ?_)))));obtain rfl:=OJ hm;exact EndsS.one _ Q (.d _) (.refl _)
theorem qE {p0:(List Obligation)} {p1:Machine} {r:Bool} (hm:gN p0 p1=some r):Ret Tryz.prog 4 [] (λ_=>false) ([.sl 4 (p0.map Obligation.enc),p1.enc].map .d) (.d (.bool (r))) []:=by
 refine aF callB4 Tryz.func4 Q Tryz.ntmps4 Q Q (λwX gX=>?_);unfold gN at hm;refine WN [0,1] Q Q (RS (cD 0 Q Q Q (SA TK Q (TN (WN [0,3] Q Q (TQ ?_))))));refine eM [(15,.d (.bool (((decide ((100:Int) < (p0.length:Int)))||(decide ((3000:Int) < (p1.vars.length:Int)))))))] [15] [0,3] Q ?_ ?_
 ·refine TG (SA TK Q (SX Q Q (aM TK Q Q Q) (SA TK Q (SB TK Q (λq1 hq1=>?_)))));cases q1
  ·refine SA TK Q (SA TK Q (SX Q Q (aM TK Q Q Q) (SA TK Q (SA TK Q (TN (WT ?_))))));exact⟨[0],Q,k0,bE (aK (aP (by first|(simp [hq1];done)|(simp only [hq1];simp))) Q) Q⟩
  iterate 5 (refine SA TK Q ?_)
  refine TN (WT ?_);exact⟨[0],Q,k0,bE (aK (aP (by first|(simp [hq1];done)|(simp only [hq1];simp))) Q) Q⟩
 refine WN [0,3,15] Q Q ?_;refine TC _ Q (λh2=>?_) (λh2=>?_)
 ·replace hm:=JA h2 hm;refine RS (BE hm λr3 hr3 hm=>SX Q Q (RN Q Q SN (nJ hr3)) (SA TK Q (TN (WN [4] Q Q (TR (WR ?_))))));obtain rfl:=OJ hm;exact EndsS.one _ Q (.d _) (.refl _)
 replace hm:=JB h2 hm;refine TS (WT (WN [0,3] Q Q ?_));refine bQ hm (λ_=>([]:Fr)) (λ_=>([]:List (Nat×Blk))) [] [0,3] Q (λz4 hm hz4=>?_) (λj hm=>?_)
 ·refine RS (SA TK Q (SX Q Q (aM TK Q Q Q) (SA TK Q (TN (WN [0,3,17,18,19] Q Q (TB (aL hm (λx6=>([(19,.d (.int .i64 x6))]:Fr)) (λx6=>([]:List (Nat×Blk))) [19] [0,3,17,18] [0] Q k0 Q Q Q Q Q (λx6 z7 hm hz7=>WN [0,3,17,18,19] Q Q ?_))))))));refine RS (SA TK Q (TN (WN [0,3,17,18,19,20] Q Q (TQ ?_))));refine TC _ Q (λh8=>?_) (λh8=>?_)
  ·replace hm:=JT h8 hm;refine TS (WT (WN [0,3,17,18,19] Q Q (TQ (TB (RS (VE hm λe9 he9 hm=>SX Q Q (bA TK Q Q Q Q he9) (SA TK Q ?_)))))));refine cA 1 Q Q tQ Q (cK 1 [none,none,none,some 3] Q Q (SA TK Q (TN (WN [0,3,6,17,18,19] Q Q (RS (SA TK Q (SA TK Q (BE hm λr10 hr10 hm=>SX Q Q (RN Q Q (SC (.d _) SN) (zF hr10)) ?_))))))));refine SA TK Q (TN (WN [0,3,17,18,19,26] Q Q ?_));refine TC _ Q (λh11=>?_) (λh11=>?_)
   ·replace hm:=JT h11 hm;refine RS (BE hm λr12 hr12 hm=>SX Q Q (RN Q Q SN (nJ hr12)) (SA TK Q (TN (WN [4] Q Q (TR (WB (WR ?_)))))));refine IE hm λv13 hm hz=>?_;rw [hz7 _ hz] at hm;refine WR (WB (IE hm λv14 hm hz=>?_));rw [hz4 _ hz] at hm;refine WR ?_;obtain rfl:=OJ hm;exact EndsS.one _ Q (.d _) (.refl _)
   replace hm:=JF h11 hm;refine TS (WK (WT (WN [0,3,17,18,19] Q Q (TG (GE hm λg15 hm=>SX Q Q (aR Q Q Q Q g15) (SA TK Q (TN ?_)))))));refine WT ?_;exact⟨_,[0],(SJ hm),Q,k0,Q⟩
  replace hm:=JF h8 hm;refine aD (WX (IE hm λv16 hm hz=>?_));rw [hz7 _ hz] at hm;refine WX (WH (WT ?_));exact⟨_,[0],(SJ hm),Q,k0,Q⟩
 refine WN [0,3] Q Q ?_;refine aE hm (λx17=>([(4,.d (.bool (x17)))]:Fr)) (λx17=>([]:List (Nat×Blk))) [4] [] Q (λz18 hm=>?_) (λx17 hm=>?_)
 ·refine bP follows  ?_;iterate 2 (refine DA [0] TK Q ?_)
  refine BE hm λr19 hr19 hm=>DX [0] Q Q (RN Q Q (SC (.d _) (SC (.d _) SN)) (qC hr19)) ?_;iterate 2 (refine DA [0] TK Q ?_)
  refine BE hm λr20 hr20 hm=>DX [0] Q Q (RN Q Q (SC (.d _) (SC (.d _) SN)) (xQ hr20)) (DA [0] TK Q (d_b [0] TK Q (λq21 hq21=>?_)));cases q21
  ·replace hm:=JF hq21 hm;iterate 2 (refine DA [0] TK Q ?_)
   refine DT ?_ (by kernel_rfl);refine SA TK Q (TN (WT ?_));exact⟨_,[0],(SJ hm),Q,k0,Q⟩
  replace hm:=JT hq21 hm;refine BE hm λr22 hr22 hm=>DX [0] Q Q (RN Q Q SN (nJ hr22)) (DA [0] TK Q ?_);refine DT ?_ (by kernel_rfl);refine SA TK Q (TN (WT ?_));exact⟨_,[0],(SJ hm),Q,k0,Q⟩
 refine WN [4] Q Q (TR ?_);obtain rfl:=OJ hm;exact EndsS.one _ Q (.d _) (.refl _)
section chk
variable {t:Table}
end chk
theorem qIH {n:Nat} (h:n≤reachBytes):n≤140737488351232:=h
structure Short (r:Route):Prop where
 secs:r.sections.length+r.overSections.length≤2000000
 points:r.points.length≤2000000
 over:r.overPoints.length≤2000000
 flank:r.flank.length≤2000000
structure TOk (t:Table):Prop where
 routes:t.routes.length≤2000000
 points:t.points.length≤2000000
 each:∀ r∈t.routes,Short r
end Go.Proofs.YtldaknhjmhlefaaGreatDoor
set_option linter.unusedVariables false
set_option linter.unusedSimpArgs false
set_option maxHeartbeats 400000
set_option maxRecDepth 100000
namespace Go.Proofs.YtldaknhjmhlefaaGreatDoor
open Go Go.TL
def opB (v:List Bool) (op x:Int) (bs:List Bool):Bool:=
 if op=3 then decide (0≤x)&&v.getD x.toNat false
 else if op=4 then (match bs with|[]=>false|b :: _=>!b)
 else if op=5 then bs.all id
 else if op=6 then bs.any id
 else decide (op=2)
mutual
def evE (v:List Bool):Expr→Bool
 | ⟨op,x,l⟩=>opB v op x (evL v l)
def evL (v:List Bool):List Expr→List Bool
 | []=>[]
 | e :: r=>evE v e :: evL v r
end
mutual
def dpE:Expr→Nat
 | ⟨_,_,l⟩=>dpL l+1
def dpL:List Expr→Nat
 | []=>0
 | e :: r=>max (dpE e) (dpL r)
end
mutual
def szE:Expr→Nat
 | ⟨_,_,l⟩=>szL l+1
def szL:List Expr→Nat
 | []=>0
 | e :: r=>szE e+szL r
end
abbrev wQ:Nat:=9223372036854775807
mutual
def okE:Expr→Prop
 | ⟨_,_,l⟩=>l.length≤wQ∧okL l
def okL:List Expr→Prop
 | []=>True
 | e :: r=>okE e∧okL r
end
theorem qFJ (v:List Bool):∀ l,evL v l=l.map (evE v)
 | []=>by simp [evL]
 | e :: r=>by simp [evL,qFJ v r]
theorem qIL (v:List Bool) (e:Expr):evE v e=opB v e.op e.var (e.args.map (evE v)):=by
 cases e with
 | mk a b c=>rw [evE,qFJ]
theorem dpL_le {d:Nat}:∀ {l:List Expr},dpL l≤d↔∀ e∈l,dpE e≤d
 | []=>by simp [dpL]
 | e :: r=>by rw [dpL,Nat.max_le,dpL_le (l:=r)];simp
theorem uN (e:Expr):dpE e=dpL e.args+1:=by
 cases e with
 | mk a b c=>rw [dpE]
theorem qER:∀ l:List Expr,szL l=(l.map szE).sum
 | []=>by simp [szL]
 | e :: r=>by simp [szL,qER r]
theorem qDF (e:Expr):szE e=szL e.args+1:=by
 cases e with
 | mk a b c=>rw [szE]
theorem qES (a b:List Expr):szL (a++b)=szL a+szL b:=by simp [qER]
theorem qFA:∀ {l:List Expr},okL l↔∀ e∈l,okE e
 | []=>by simp [okL]
 | e :: r=>by rw [okL,qFA (l:=r)];simp
theorem okE_iff {e:Expr}:okE e↔e.args.length≤wQ∧∀ x∈e.args,okE x:=by
 cases e with
 | mk a b c=>rw [okE,qFA]
theorem qGG {e:Expr} (h:Expr.Wf e):okE e:=by
 induction h with
 | mk x h0 h1 h2 g2 ih=>
  rw [okE_iff];exact⟨by have:=qIH h2;unfold wQ;omega,ih⟩
theorem qNP (e:Expr):kN e=some ⟨if e.op=3 then 200 else if e.op=4 then (if 0 < e.args.length then 201 else 232) else if e.op=5 then 202 else if e.op=6 then 203 else 232,e⟩:=by
 unfold kN;by_cases h3:e.op=3
 ·rw [if_pos h3,if_pos h3]
 rw [if_neg h3,if_neg h3];by_cases h4:e.op=4
 ·rw [if_pos h4,if_pos h4];by_cases h:0 < e.args.length
  ·rw [if_pos (by omega),if_pos h]
  rw [if_neg (by omega),if_neg h]
 rw [if_neg h4,if_neg h4];by_cases h5:e.op=5
 ·rw [if_pos h5,if_pos h5]
 rw [if_neg h5,if_neg h5];by_cases h6:e.op=6
 ·rw [if_pos h6,if_pos h6]
 rw [if_neg h6,if_neg h6]
theorem yW (v:List Bool):∀ (fu:Nat) (e:Expr),dpE e≤fu→okE e→fJ fu e v=some (evE v e)
 | 0,e,h,_=>by rw [uN] at h;omega
 | fu+1,e,h,ho=>by
  rw [uN] at h;have hd:∀ x∈e.args,dpE x≤fu:=dpL_le.1 (by omega);obtain⟨hl,hox⟩:=okE_iff.1 ho;unfold wQ at hl;have ih:∀ x∈e.args,fJ fu x v=some (evE v x):=λx hx=>yW v fu x (hd x hx) (hox x hx);rw [qIL];unfold fJ opB;rw [qNP,cO];dsimp only;by_cases h3:e.op=3
  ·rw [if_pos h3,if_pos rfl,if_pos h3];by_cases h0:0≤e.var
   ·rw [if_pos h0,decide_eq_true h0,Bool.true_and];by_cases h1:e.var < (v.length:Int)
    ·have hx : v[e.var.toNat]? = some v[e.var.toNat] := zQR (by omega);rw [if_pos h1,wW h0 hx,cO,zQD,hx];rfl
    rw [if_neg h1, cO, zQD, List.getElem?_eq_none (by omega)];rfl
   rw [if_neg h0,decide_eq_false h0,Bool.false_and];rfl
  rw [if_neg h3,if_neg h3];by_cases h4:e.op=4
  ·rw [if_pos h4,if_pos h4];by_cases hz:0 < e.args.length
   ·rw [if_pos hz, if_neg (by decide), if_pos rfl];have hx:e.args[0]?=some e.args[0]:=zQR hz;rw [show (0:Int)=((0:Nat):Int) from rfl,oT hx,ih _ (List.getElem_mem hz),cO,jY,kC]
    cases e with
    | mk a b c=>
     cases c with
     | nil=>simp at hz
     | cons y r=>rfl
   rw [if_neg hz, if_neg (by decide), if_neg (by decide), if_neg (by decide), if_neg (by decide), rB, decide_eq_false (by omega)]
   cases e with
   | mk a b c=>
    cases c with
    | nil=>rfl
    | cons y r=>simp at hz
  rw [if_neg h4,if_neg h4];by_cases h5:e.op=5
  ·rw [if_pos h5, if_pos h5, if_neg (by decide), if_neg (by decide), if_pos rfl];rw [wS e.args (λx=>!evE v x) (.inr (.inr false)) (.inl ()) hl (λi x hx=>?_) (by rw [if_neg (by omega)];rfl)]
   ·cases ha:(e.args.map (evE v)).all id with
    | true=>
     rw [if_neg (by
      rw [zQU];rintro ⟨x, hx, hc⟩;rw [zQT] at ha;have := ha _ (List.mem_map_of_mem hx);simp only [id] at this;rw [this] at hc
      cases hc)]
     rfl
    | false=>
     rw [if_pos (by
      rw [zQU];rw [List.all_eq_false] at ha;obtain ⟨y, hy, hc⟩ := ha;obtain ⟨x, hx, rfl⟩ := List.mem_map.1 hy
      exact ⟨x, hx, by simpa using hc⟩)]
     rfl
   have hi:=(zQQ.1 hx).1;rw [if_pos (by omega),oT hx,ih x (zQM hx),cO,iE (vV hi hl)];cases evE v x<;>simp
  rw [if_neg h5,if_neg h5];by_cases h6:e.op=6
  ·rw [if_pos h6, if_pos h6, if_neg (by decide), if_neg (by decide), if_neg (by decide), if_pos rfl];rw [wS e.args (λx=>evE v x) (.inr (.inr true)) (.inl ()) hl (λi x hx=>?_) (by rw [if_neg (by omega)];rfl)]
   ·rw [List.any_map,show (id ∘ evE v)=evE v from rfl];show cV (cV (some (if e.args.any (evE v)=true then Sum.inr (Sum.inr true) else Sum.inl ())) _) _=_;cases e.args.any (evE v)
    ·rw [if_neg (by simp)];rfl
    rw [if_pos rfl];rfl
   have hi:=(zQQ.1 hx).1;rw [if_pos (by omega),oT hx,ih x (zQM hx),cO,iE (vV hi hl)];cases evE v x<;>simp
  rw [if_neg h6,if_neg h6,if_neg (by decide),if_neg (by decide),if_neg (by decide),if_neg (by decide),rB]
theorem qQL {e:Expr} (v:List Bool) (hd:dpE e≤cZ) (ho:okE e):nY e v=some (evE v e):=by
 unfold nY uK;rw [yW v cZ e hd ho,cO]
def formB (n:Int) (op x:Int) (k:Nat):Bool:=
 if op=1∨op=2 then decide (x=0∧k=0)
 else if op=3 then decide (0≤x∧x < n∧k=0)
 else if op=4 then decide (k=1∧x=0)
 else if op=5∨op=6 then decide (x=0)
 else false
mutual
def qQX (n:Int):Expr→Bool
 | ⟨op,x,l⟩=>formB n op x l.length&&qQW n l
def qQW (n:Int):List Expr→Bool
 | []=>true
 | e :: r=>qQX n e&&qQW n r
end
def ValE (n:Int) (d left:Int) (e:Expr):Prop:=qQX n e=true∧d+(dpE e:Int)≤13∧(szE e:Int)≤left
instance (n d left:Int) (e:Expr):Decidable (ValE n d left e):=by unfold ValE;infer_instance
theorem qFD {σ ρ:Type} {f:σ→Option (σ ⊕ ρ)} (P:ρ→Prop) (I:Nat→σ→Prop) {s:σ} (n:Nat) (hn:n≤wQ) (h0:I 0 s) (hs:∀ i,i < n→∀ s,I i s→(∃ s',f s=some (.inl s')∧I (i+1) s')∨(∃ o,f s=some (.inr o)∧P o)) (he:∀ s,I n s→∃ o,f s=some (.inr o)∧P o):∃ o,aU f s=some o∧P o:=by
 suffices h:∀ k i s,i+k=n→I i s→∃ o,jU f (k+1) s=some o∧P o by
  obtain⟨o,h1,h2⟩:=h n 0 s (by omega) h0;exact⟨o,qD h1 (by unfold cZ wQ at *; omega),h2⟩
 intro k
 induction k with
 | zero=>
  intro i s hi hI;obtain⟨o,h1,h2⟩:=he s (by rw [show n=i by omega];exact hI);exact⟨o,by simp [jU,h1],h2⟩
 | succ k ih=>
  intro i s hi hI;rcases hs i (by omega) s hI with ⟨s',h1,h2⟩|⟨o,h1,h2⟩
  ·obtain ⟨o, h3, h4⟩ := ih (i + 1) s' (by omega) h2;exact⟨o,by rw [jU,h1];exact h3,h4⟩
  exact⟨o,by rw [jU,h1],h2⟩
mutual
theorem qEQ:∀ e:Expr,szE e≤e.encR.bulk
 | ⟨a,b,c⟩=>by
  have:=qAX c;simp only [szE,Expr.encR,D.bulk,D.bulks];omega
theorem qAX:∀ l:List Expr,szL l≤D.bulks (Expr.encsR l)
 | []=>by simp [szL]
 | e :: r=>by
  have:=qEQ e;have:=qAX r;simp only [szL,Expr.encsR,D.bulks];omega
end
mutual
theorem qFK:∀ e:Expr,dpE e≤szE e
 | ⟨a,b,c⟩=>by
  have:=qIQ c;simp only [szE,dpE];omega
theorem qIQ:∀ l:List Expr,dpL l≤szL l
 | []=>by simp [szL,dpL]
 | e :: r=>by
  have:=qFK e;have:=qIQ r;simp only [szL,dpL];omega
end
theorem sz_pos (e:Expr):1≤szE e:=by rw [qDF];omega
theorem qEA:∀ l:List Expr,l.length≤szL l
 | []=>by simp [szL]
 | e :: r=>by have:=sz_pos e;have:=qEA r;simp only [szL,List.length_cons];omega
theorem qAB:∀ {l:List Expr} {x:Expr},x∈l→szE x≤szL l
 | e :: r,x,h=>by
  rcases zQB.1 h with rfl|h
  ·simp only [szL];omega
  have:=qAB h;simp only [szL];omega
theorem qDX {l:List Expr} {x:Expr} (h:x∈l):dpE x≤dpL l:=(dpL_le.1 (zQW _)) x h
theorem yP:∀ (fu:Nat) (e:Expr),dpE e≤fu→szE e≤1000000000→gI fu e=some (szE e:Int)
 | 0,e,h,_=>by rw [uN] at h;omega
 | fu+1,e,h,hs=>by
  rw [uN] at h;have hse:=qDF e;have hl:=qEA e.args;unfold gI;rw [qAC (s:=((1:Int),(0:Int))) (λi=>((1:Int)+(szL (e.args.take i):Int),(i:Int))) e.args.length (o:=(1:Int)+(szL e.args:Int)) rfl (by omega) ?_ ?_]
  ·rw [cO]
   congr 1
   omega
  ·intro i hi;have hm:=List.getElem_mem hi;have h1:=qDX hm;have h2:=qAB hm;have hq:e.args.take (i+1)=e.args.take i++[e.args[i]]:=by rw [List.take_add_one,zQR hi];rfl
   have hn:szL (e.args.take (i+1))=szL (e.args.take i)+szE e.args[i]:=by rw [hq,qES];simp [szL]
   have hle:szL (e.args.take (i+1))≤szL e.args:=by
    have:=qES (e.args.take (i+1)) (e.args.drop (i+1));rw [List.take_append_drop] at this;omega
   dsimp only;rw [if_pos (by omega),oT (zQR hi),yP fu e.args[i] (by omega) (by omega),cO,iE (by unfold I64;omega),iE (by unfold I64;omega)]
   congr 3
   omega
  dsimp only;rw [if_neg (by omega),List.take_length];rfl
theorem qNF {e:Expr} (hs:szE e≤1000000000):lU e=some (szE e:Int):=by
 unfold lU;exact yP cZ e (by have:=qFK e;unfold cZ;omega) hs
theorem rY (v:List Bool):∀ (fu:Nat) (e:Expr),dpE e≤fu→szE e≤1000000000→fA fu e v=some (evE v e)
 | 0,e,h,_=>by rw [uN] at h;omega
 | fu+1,e,h,hs=>by
  rw [uN] at h;have hse:=qDF e;have hl:=qEA e.args;rw [qIL];unfold fA opB;by_cases h2:e.op=2
  ·rw [if_pos h2,jY,kC,if_neg (by omega),if_neg (by omega),if_neg (by omega),if_neg (by omega),decide_eq_true h2]
  rw [if_neg h2];by_cases h3:e.op=3
  ·rw [if_pos h3,if_pos h3];by_cases h0:0≤e.var
   ·rw [if_pos h0];by_cases hv:e.var < (v.length:Int)
    ·have hget:v[e.var.toNat]?=some (v.getD e.var.toNat false):=by
      rw [zQD,zQR (by omega)];rfl
     rw [if_pos hv,wW h0 hget,cO,jY,kC,decide_eq_true h0,Bool.true_and]
    rw [if_neg hv, cO, jY, kC, zQD, List.getElem?_eq_none (by omega)];simp
   rw [if_neg h0,cO,jY,kC,decide_eq_false h0,Bool.false_and]
  rw [if_neg h3,if_neg h3];by_cases h4:e.op=4
  ·rw [if_pos h4,if_pos h4]
   cases ha:e.args with
   | nil=>
    rw [if_neg (by simp),cO,jY,kC];rfl
   | cons x r=>
    have hm:x∈e.args:=by rw [ha];exact List.mem_cons_self ..
    have q1:=qDX hm;have q2:=qAB hm;rw [if_pos (by simp),wW (by omega) (by rfl),rY v fu x (by omega) (by omega),cO,cO,jY,kC];rfl
  rw [if_neg h4,if_neg h4]
  have hloop : ∀ c : Bool, aU (ρ := Unit ⊕ (Unit ⊕ Bool)) (fun i24 =>
      if i24 < (e.args.length : Int) then
       aV e.args i24 fun e27 =>
       aA ((fA fu) e27 v) fun r28 =>
       if ((r28 == c)) = true then
        aI (
         aI (
          aI (
           some c)))
       else
        aB (I64 (i24 + (1 : Int))) <|
        some (.inl (i24 + (1 : Int)))
      else
       aI (
        some (.inl ()))) (0 : Int) = some (if (e.args.any fun x => evE v x == c) = true then .inr (.inr c) else .inl ()) := fun c => by
   refine wS (ρ:=Unit ⊕ (Unit ⊕ Bool)) e.args (λx=>evE v x == c) (Sum.inr (Sum.inr c)) (Sum.inl ()) (by omega) ?_ ?_
   ·intro i x hx;have hi:=(zQQ.1 hx).1;have hm:=zQM hx;have q1:=qDX hm;have q2:=qAB hm;rw [if_pos (by omega),oT hx,rY v fu x (by omega) (by omega),cO,iE (by unfold I64;omega)];cases evE v x == c<;>rfl
   rw [if_neg (by omega)];rfl
  by_cases h5:e.op=5
  ·have h6 : ¬ e.op = 6 := by omega
   rw [if_pos h5,if_pos h5,cO,decide_eq_true h5,if_pos rfl,decide_eq_false h6,hloop false]
   have:(e.args.map (evE v)).all id=!(e.args.any λx=>evE v x == false):=by
    rw [List.all_map,List.all_eq_not_any_not]
    congr 2
    funext x
    show (!(evE v x))=(evE v x == false);cases evE v x<;>rfl
   rw [this];cases (e.args.any λx=>evE v x == false)<;>rfl
  rw [if_neg h5,if_neg h5,cO];by_cases h6:e.op=6
  ·rw [if_pos h6,decide_eq_true h6,if_pos rfl,decide_eq_false h5,hloop true]
   have:(e.args.map (evE v)).any id=(e.args.any λx=>evE v x == true):=by
    rw [List.any_map]
    congr 1
    funext x
    show evE v x=(evE v x == true);cases evE v x<;>rfl
   rw [this];cases (e.args.any λx=>evE v x == true)<;>rfl
  rw [if_neg h6,decide_eq_false h6,if_neg (by simp),rB,decide_eq_false h2]
theorem qMT (v:List Bool) {e:Expr} (hs:szE e≤1000000000):iA e v=some (evE v e):=by
 unfold iA;exact rY v cZ e (by have:=qFK e;unfold cZ;omega) hs
theorem qQK:jD=some true:=by decide+kernel
theorem qNO (x:Obligation):szE x.expr≤x.enc.bulk:=by
 have:=qEQ x.expr;rw [Expr.encR_eq] at this;simp only [Obligation.enc,Expr.enc,D.bulk,D.bulks] at *;omega
theorem qCK {e:Obligation} (m:Machine) (ho:okE e.expr) (hs:szE e.expr≤1000000000):gU e m=some (!(evE m.vars e.expr)):=by
 unfold gU;rw [qQL m.vars (by have:=qFK e.expr;unfold cZ;omega) ho,cO]
def qAE (l:List Obligation) (m:Machine):Int:=if (l.findIdx λe=>!(evE m.vars e.expr)) < l.length then (l.findIdx λe=>!(evE m.vars e.expr):Nat) else -1
theorem yV {l : List Obligation} (m : Machine) (hl : l.length ≤ wQ) (g : Obligation → Option Bool) (hg : ∀ e ∈ l, g e = some (!(evE m.vars e.expr))) : aU (ρ := Unit ⊕ Int) (fun x3 =>
   if x3 < (l.length : Int) then
    aV l x3 fun e6 =>
    aA (g e6) fun r7 =>
    if r7 = true then
     aI (
      aI (
       some x3))
    else
     aB (I64 (x3 + (1 : Int))) <|
     some (.inl (x3 + (1 : Int)))
   else
    aI (
     some (.inl ()))) (0 : Int) = some (if (l.findIdx fun e => !(evE m.vars e.expr)) < l.length then .inr (l.findIdx fun e => !(evE m.vars e.expr) : Nat) else .inl ()) := by
 obtain ⟨o, h1, h2⟩ := qFD (f := fun (x3 : Int) =>
   if x3 < (l.length : Int) then
    aV l x3 fun e6 =>
    aA (g e6) fun r7 =>
    if r7 = true then
     aI (
      aI (
       some x3))
    else
     aB (I64 (x3 + (1 : Int))) <|
     some (.inl (x3 + (1 : Int)))
   else
    aI (
     some (.inl ()))) (s := (0 : Int))
  (λ(o:Unit ⊕ Int)=>o=if (l.findIdx λe=>!(evE m.vars e.expr)) < l.length then .inr (l.findIdx λe=>!(evE m.vars e.expr):Nat) else .inl ())
  (fun i s => s = (i : Int) ∧ i ≤ l.findIdx fun e => !(evE m.vars e.expr)) l.length hl ⟨rfl, Nat.zero_le _⟩ (fun i hi s hI => by
   obtain ⟨rfl, h2⟩ := hI;rw [if_pos (by omega), oT (zQR hi), hg _ (List.getElem_mem hi), cO]
   cases hb : !(evE m.vars l[i].expr) with
   | true =>
    right
    have hf : (l.findIdx fun e => !(evE m.vars e.expr)) = i := by
     refine Nat.le_antisymm ?_ h2;by_cases h : (l.findIdx fun e => !(evE m.vars e.expr)) ≤ i
     ·exact h
     exact absurd hb (by simpa using List.not_of_lt_findIdx (Nat.lt_of_not_le h))
    refine ⟨_, rfl, ?_⟩;rw [hf, if_pos hi]
   | false =>
    left;rw [if_neg (by simp), iE (vV hi hl)];refine ⟨_, rfl, by push_cast; rfl, ?_⟩;rcases Nat.lt_or_ge i (l.findIdx fun e => !(evE m.vars e.expr)) with h | h
    ·omega
    have h3 : (l.findIdx fun e => !(evE m.vars e.expr)) = i := Nat.le_antisymm h h2;have h4 : (l.findIdx fun e => !(evE m.vars e.expr)) < l.length := by omega
    have h5 := List.findIdx_getElem (w := h4);simp only [h3] at h5;rw [hb] at h5
    cases h5) (fun s hI => by
   obtain ⟨rfl, h2⟩ := hI;rw [if_neg (by omega)];refine ⟨_, rfl, ?_⟩
   rw [if_neg (by omega)])
 rw [h1,h2]
theorem qMU {l:List Obligation} (m:Machine) (hl:l.length≤wQ) (h:∀ e∈l,okE e.expr∧szE e.expr≤1000000000):iJ l m=some (qAE l m):=by
 unfold iJ dZ qAE;rw [yV m hl _ λe he=>qCK m (h e he).1 (h e he).2];split<;>rfl
theorem qGR {l:List Obligation} (m:Machine) (hl:l.length≤wQ) (h:∀ e∈l,szE e.expr≤1000000000):kJ l m=some (qAE l m):=by
 have hf:=yV m hl (λe=>aA (iA e.expr m.vars) λr=>some (!r)) λe he=>by rw [qMT m.vars (h e he),cO]
 unfold kJ qAE
 have hq:∀ (e:Obligation) (k:Bool→Option (Int ⊕ (Unit ⊕ Int))),aA (aA (iA e.expr m.vars) λr=>some (!r)) k=aA (iA e.expr m.vars) λr=>k (!r):=λe k=>by
  cases iA e.expr m.vars<;>rfl
 simp only [hq] at hf;rw [hf];split<;>rfl
theorem qBZ {p0:List Obligation} {p1:Machine} (w0:p0.length≤reachBytes∧∀ y∈p0,Obligation.Wf y) (w1:Machine.Wf p1) {k:Nat} (hb:D.bulks [.sl k (p0.map Obligation.enc),p1.enc]≤1048576):gN p0 p1=some true:=by
 have hl:p0.length≤wQ:=by have:=qIH w0.1;unfold wQ;omega
 have hs:∀ e∈p0,szE e.expr≤1000000000:=λe he=>by
  have h1:=qNO e;have h2:=D.part_le (List.mem_map_of_mem (f:=Obligation.enc) he);simp only [D.bulks,D.bulk] at hb;omega
 unfold gN;rw [qQK];split
 ·rfl
 obtain ⟨o, h1, h2⟩ := qFD (f := fun (x6 : Int) =>
   if x6 < (p0.length : Int) then
    aV p0 x6 fun e9 =>
    aA (lU e9.expr) fun r10 =>
    if (300 : Int) < r10 then
     aA (some true) fun r12 =>
     aI (
      aI (
       some r12))
    else
     aB (I64 (x6 + (1 : Int))) <|
     some (.inl (x6 + (1 : Int)))
   else
    aI (
     some (.inl ()))) (s := (0 : Int))
  (fun (o : Unit ⊕ Bool) => o = .inl () ∨ o = .inr true) (fun i s => s = (i : Int)) p0.length hl rfl (fun i hi s hI => by
   subst hI;rw [if_pos (by omega), oT (zQR hi), qNF (hs _ (List.getElem_mem hi)), cO];split
   ·exact .inr ⟨_, rfl, .inr rfl⟩
   ·rw [iE (vV hi hl)]
    exact .inl ⟨_, rfl, by push_cast; rfl⟩) (fun s hI => by
   subst hI;rw [if_neg (by omega)]
   exact ⟨_, rfl, .inl rfl⟩)
 rw [h1];rcases h2 with rfl|rfl
 ·rw [rB, qMU p1 hl fun e he => ⟨qGG (w0.2 e he).expr, hs e he⟩, cO, qGR p1 hl hs, cO, if_pos rfl];rfl
 rfl
end Go.Proofs.YtldaknhjmhlefaaGreatDoor
