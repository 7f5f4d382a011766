/- Texts of this proof, joined, without what it does not use. No condition. -/
import Derived.Test.YtldaknhjmhlefaaGreatDoorQt

set_option maxHeartbeats 8000000
set_option linter.unusedSimpArgs false
set_option linter.unusedVariables false
set_option maxRecDepth 20000
namespace Go.Proofs.YtldaknhjmhlefaaGreatDoor
open Go Go.TL
theorem qFS:∀ (fu:Nat) {p0:Expr} {p1:Expr} {r:Bool} (hm:lN fu p0 p1=some r),RetN Tryz.prog 23 [p0.enc,p1.enc] (.bool (r)):=by
 intro fu
 induction fu with
 | zero=>
  intro p0 p1 r hm;unfold lN at hm;cases hm
 | succ fu ih=>
  intro p0 p1 r hm;refine .unit (aG zEN Tryz.func23 Q Tryz.ntmps23 Q Q (λwX gX=>?_)) Q;unfold lN at hm;refine WN [0,1] Q Q (RS (cM 0 Q Q Q (cM 1 Q Q Q (SA TK Q (TN (WN [2,3] Q Q (TQ ?_)))))));refine fM [(26,.d (.bool (((!(decide (p0.op=p1.op)))||((!(decide (p0.var=p1.var)))||(!(decide ((p0.args.length:Int)=(p1.args.length:Int)))))))))] [26] [2,3] Q ?_ ?_
  ·refine TG ?_;iterate 5 (refine SA TK Q ?_)
   refine SB TK Q (λq1 hq1=>?_);cases q1
   ·iterate 6 (refine SA TK Q ?_)
    refine SB TK Q (λq2 hq2=>?_);cases q2
    ·refine SA TK Q (SA TK Q (SX Q Q (aM TK Q Q Q) (SA TK Q (SA TK Q (SX Q Q (aM TK Q Q Q) (SA TK Q (SA TK Q (TN (WT ?_)))))))));exact⟨[0,1],Q,k0,bE (aK (aL (by first|(simp [hq1,hq2];done)|(simp only [hq1,hq2];simp))) Q) Q⟩
    iterate 8 (refine SA TK Q ?_)
    refine TN (WT ?_);exact⟨[0,1],Q,k0,bE (aK (aL (by first|(simp [hq1,hq2];done)|(simp only [hq1,hq2];simp))) Q) Q⟩
   iterate 15 (refine SA TK Q ?_)
   refine TN (WT ?_);exact⟨[0,1],Q,k0,bE (aK (aL (by first|(simp [hq1];done)|(simp only [hq1];simp))) Q) Q⟩
  refine WN [2,3,26] Q Q ?_;refine TC _ Q (λh3=>?_) (λh3=>?_)
  ·replace hm:=JA h3 hm;refine RS (SA TK Q (TN (WN [4] Q Q (TR (WR ?_)))));obtain rfl:=OJ hm;exact EndsS.one _ Q (.d _) (.refl _)
  replace hm:=JB h3 hm;refine TS (WT (WN [2,3] Q Q ?_));refine bK hm (λ_=>([]:Fr)) (λ_=>([]:List (Nat×Blk))) [] [] Q (λz4 hm hz4=>?_) (λj hm=>?_)
  ·refine RS (SA TK Q (TN (WN [2,3,5] Q Q (TB (aO hm (λi6=>([(5,.d (.int .i64 i6))]:Fr)) (λi6=>([]:List (Nat×Blk))) [5] [2,3] [0,1] Q k0 Q Q Q Q Q (λi6 z7 hm hz7=>WN [2,3,5] Q Q (TQ (RS ?_))))))));refine SA TK Q (SA TK Q (SA TK Q (SX Q Q (aM TK Q Q Q) (SA TK Q (TN (WN [2,3,5,31] Q Q ?_))))));refine TC _ Q (λh8=>?_) (λh8=>?_)
   ·replace hm:=JT h8 hm;refine TS (WT (WN [2,3,5] Q Q (TQ (TB (bM follows  ?_)))));iterate 3 (refine DA [0,1] TK Q ?_)
    refine VE hm λe9 he9 hm=>DX [0,1] Q Q (tI TK Q Q Q Q he9 (Expr.encR_eq _)) ?_;iterate 4 (refine DA [0,1] TK Q ?_)
    refine VE hm λe10 he10 hm=>DX [0,1] Q Q (tI TK Q Q Q Q he10 (Expr.encR_eq _)) (DA [0,1] TK Q (BE hm λr11 hr11 hm=>DX [0,1] Q Q (RN Q Q (SC (.d _) (SC (.d _) SN)) (ih hr11)) (DA [0,1] TK Q ?_)));refine DT ?_ (by kernel_rfl);refine TN (WN [2,3,5,45] Q Q ?_);refine TC _ Q (λh12=>?_) (λh12=>?_)
    ·replace hm:=JA h12 hm;refine RS (SA TK Q (TN (WN [4] Q Q (TR (WB (WR (IE hm λv13 hm hz=>?_)))))));rw [hz7 _ hz] at hm;refine WR (WB (IE hm λv14 hm hz=>?_));rw [hz4 _ hz] at hm;refine WR ?_;obtain rfl:=OJ hm;exact EndsS.one _ Q (.d _) (.refl _)
    replace hm:=JB h12 hm;refine TS (WK (WT (WN [2,3,5] Q Q (TG (SA TK Q (GE hm λg15 hm=>SX Q Q (aU Q Q Q Q g15) (SA TK Q ?_)))))));refine TN (WT ?_);exact⟨_,[0,1],(SJ hm),Q,k0,Q⟩
   replace hm:=JF h8 hm;refine aE (WX (IE hm λv16 hm hz=>?_));rw [hz7 _ hz] at hm;refine WX (WH (WT ?_));exact⟨_,[0,1],(SJ hm),Q,k0,Q⟩
  refine WN [] Q Q (RS (SA TK Q (TN (WN [4] Q Q (TR ?_)))));obtain rfl:=OJ hm;exact EndsS.one _ Q (.d _) (.refl _)
theorem yF {p0:Expr} {p1:Expr} {r:Bool} (hm:xA p0 p1=some r):RetN Tryz.prog 23 [p0.enc,p1.enc] (.bool (r)):=qFS eU hm
theorem qGQ {p0:Expr} {r:If_node} (hm:nH p0=some r):RetD Tryz.prog 185 [.ptr (p0.enc) 0] (r.enc):=by
 refine .of (mv:=λ_=>false) (aG qXZ Tryz.func185 Q Tryz.ntmps185 Q Q (λwX gX=>?_));unfold nH at hm;refine WN [0] Q Q (RS (SA TK Q (TN (WN [0] Q Q (TQ (RS ?_))))));iterate 4 (refine SA TK Q ?_)
 refine TN (WN [0,6] Q Q (TB (RS (SA TK Q (SA TK Q (TN (WN [0,6,7] Q Q ?_)))))));refine TC _ Q (λh1=>?_) (λh1=>?_)
 ·replace hm:=JT h1 hm;refine RS (SA TK Q (SX Q Q (bR Q plc200 qHZ Q Q Q Q) (SA TK Q (SA TK Q (TN (WN [2] Q Q (TR (WB (WR ?_)))))))));obtain rfl:=OJ hm;exact EndsS.one _ Q (.d _) (.refl _)
 replace hm:=JF h1 hm;refine RS (SA TK Q (SA TK Q (TN (WN [0,6,12] Q Q ?_))));refine TC _ Q (λh2=>?_) (λh2=>?_)
 ·replace hm:=JT h2 hm;refine RS ?_;iterate 4 (refine SA TK Q ?_)
  refine SX Q Q (aM TK Q Q Q) (SA TK Q (TN (WN [0,19] Q Q ?_)));refine TC _ Q (λh3=>?_) (λh3=>?_)
  ·replace hm:=JT h3 hm;refine RS (SA TK Q (SX Q Q (bR Q plc201 qHY Q Q Q Q) (SA TK Q (SA TK Q (TN (WN [2] Q Q (TR (WB (WR ?_)))))))));obtain rfl:=OJ hm;exact EndsS.one _ Q (.d _) (.refl _)
  replace hm:=JF h3 hm;refine TS (WK (WT (WN [0] Q Q (RS (SA TK Q (SX Q Q (bR Q qUT qPU Q Q Q Q) (SA TK Q (SA TK Q (TN ?_)))))))));refine WN [2] Q Q (TR ?_);obtain rfl:=OJ hm;exact EndsS.one _ Q (.d _) (.refl _)
 replace hm:=JF h2 hm;refine RS (SA TK Q (SA TK Q (TN (WN [0,6,23] Q Q ?_))));refine TC _ Q (λh4=>?_) (λh4=>?_)
 ·replace hm:=JT h4 hm;refine RS (SA TK Q (SX Q Q (bR Q plc202 qHX Q Q Q Q) (SA TK Q (SA TK Q (TN (WN [2] Q Q (TR (WB (WR ?_)))))))));obtain rfl:=OJ hm;exact EndsS.one _ Q (.d _) (.refl _)
 replace hm:=JF h4 hm;refine RS (SA TK Q (SA TK Q (TN (WN [0,28] Q Q ?_))));refine TC _ Q (λh5=>?_) (λh5=>?_)
 ·replace hm:=JT h5 hm;refine RS (SA TK Q (SX Q Q (bR Q plc203 qHW Q Q Q Q) (SA TK Q (SA TK Q (TN (WN [2] Q Q (TR (WB (WR ?_)))))))));obtain rfl:=OJ hm;exact EndsS.one _ Q (.d _) (.refl _)
 replace hm:=JF h5 hm;refine TS (WK (WT (WN [0] Q Q (RS (SA TK Q (SX Q Q (bR Q qUT qPU Q Q Q Q) (SA TK Q (SA TK Q (TN ?_)))))))));refine WN [2] Q Q (TR ?_);obtain rfl:=OJ hm;exact EndsS.one _ Q (.d _) (.refl _)
theorem qJU:∀ (fu:Nat) {p0:Expr} {p1:(List Bool)} {r:Bool} (hm:hU fu p0 p1=some r),RetN Tryz.prog 120 [.ptr (p0.enc) 0,.sl 1 (p1.map D.bool)] (.bool (r)):=by
 intro fu
 induction fu with
 | zero=>
  intro p0 p1 r hm;unfold hU at hm;cases hm
 | succ fu ih=>
  intro p0 p1 r hm;refine .unit (aG qZS Tryz.func120 Q Tryz.ntmps120 Q Q (λwX gX=>?_)) Q;unfold hU at hm;refine WN [0,1] Q Q (RS (SA TK Q (TN (WN [0,1] Q Q ?_))));refine bK hm (λ_=>([]:Fr)) (λ_=>([]:List (Nat×Blk))) [] [0] Q (λz1 hm hz1=>?_) (λj hm=>?_)
  ·refine RS (SA TK Q (BE hm λr2 hr2 hm=>SX Q Q (RD Q Q Q (qGQ hr2)) (TN (WN [0,1,12] Q Q (TB (RS ?_))))));by_cases h3:r2.tid=200
   ·rw [if_pos h3] at hm;refine SX Q Q (qPY Q qRJ Q h3) (SA TK Q (SA TK Q (TN (WN [0,1,12,14,15] Q Q ?_))));refine TC true Q (λ_=>?_) (λh=>by cases h);refine RS (cF 0 Q Q qHZ Q (SA TK Q (TN (WN [1,5] Q Q ?_))));refine aH hm (λx4=>([(4,.d (.bool (x4)))]:Fr)) (λx4=>([]:List (Nat×Blk))) [4] [] Q (λz5 hm=>?_) (λx4 hm=>?_)
    ·refine TG ?_;iterate 6 (refine SA TK Q ?_)
     refine SB TK Q (λq6 hq6=>?_);cases q6
     ·replace hm:=JF hq6 hm;iterate 20 (refine SA TK Q ?_)
      refine TN (WT ?_);exact⟨_,[0],(SJ hm),Q,k0,Q⟩
     replace hm:=JT hq6 hm;iterate 6 (refine SA TK Q ?_)
     refine SX Q Q (aM TK Q Q Q) (SA TK Q (SA TK Q (SB TK Q (λq7 hq7=>?_))));cases q7
     ·replace hm:=JF hq7 hm;iterate 10 (refine SA TK Q ?_)
      refine TN (WT ?_);exact⟨_,[0],(SJ hm),Q,k0,Q⟩
     replace hm:=JT hq7 hm;iterate 6 (refine SA TK Q ?_)
     refine VE hm λe8 he8 hm=>SX Q Q (bF TK Q Q Q Q he8) (SA TK Q (SA TK Q (SA TK Q (TN (WT ?_)))));exact⟨_,[0],(SJ hm),Q,k0,Q⟩
    refine WN [4] Q Q (TR (WB (IE hm λv9 hm hz=>?_)));rw [hz1 _ hz] at hm;refine WR ?_;obtain rfl:=OJ hm;exact EndsS.one _ Q (.d _) (.refl _)
   rw [if_neg h3] at hm;refine SX Q Q (qPZ Q qRJ Q h3 qHZ Q) (SA TK Q (SA TK Q (TN (WN [0,1,12,14] Q Q (TC false Q (λh=>by cases h) (λ_=>RS ?_))))));by_cases h10:r2.tid=201
   ·rw [if_pos h10] at hm;refine SX Q Q (qPY Q qRI Q h10) (SA TK Q (SA TK Q (TN (WN [0,1,12,43,44] Q Q ?_))));refine TC true Q (λ_=>?_) (λh=>by cases h);refine RS (cF 0 Q Q qHY Q (SA TK Q (TN (WN [1,6] Q Q (RS ?_)))));iterate 5 (refine SA TK Q ?_)
    refine VE hm λe11 he11 hm=>SX Q Q (tI TK Q Q Q Q he11 (Expr.encR_eq _)) (SA TK Q (BE hm λr12 hr12 hm=>SX Q Q (RN Q Q (SC (.d _) (SC (.d _) SN)) (ih hr12)) (SA TK Q (SA TK Q (TN (WN [4] Q Q (TR ?_)))))));refine WB (IE hm λv13 hm hz=>?_);rw [hz1 _ hz] at hm;refine WR ?_;obtain rfl:=OJ hm;exact EndsS.one _ Q (.d _) (.refl _)
   rw [if_neg h10] at hm;refine SX Q Q (qPZ Q qRI Q h10 qHY Q) (SA TK Q (SA TK Q (TN (WN [0,1,12,43] Q Q (TC false Q (λh=>by cases h) (λ_=>RS ?_))))));by_cases h14:r2.tid=202
   ·rw [if_pos h14] at hm;refine SX Q Q (qPY Q qRH Q h14) (SA TK Q (SA TK Q (TN (WN [0,1,12,55,56] Q Q ?_))));refine TC true Q (λ_=>?_) (λh=>by cases h);refine RS (cF 0 Q Q qHX Q (SA TK Q (TN (WN [1,7] Q Q ?_))));refine bK hm (λ_=>([]:Fr)) (λ_=>([]:List (Nat×Blk))) [] [] Q (λz15 hm hz15=>?_) (λj hm=>?_)
    ·refine RS ?_;iterate 5 (refine SA TK Q ?_)
     refine SX Q Q (aM TK Q Q Q) (SA TK Q (TN (WN [1,7,62,63] Q Q (TB (aO hm (λx17=>([(63,.d (.int .i64 x17))]:Fr)) (λx17=>([]:List (Nat×Blk))) [63] [1,7,62] [0] Q k0 Q Q Q Q Q (λx17 z18 hm hz18=>WN [1,7,62,63] Q Q (RS (SA TK Q ?_))))))));refine TN (WN [1,7,62,63,64] Q Q (TQ ?_));refine TC _ Q (λh19=>?_) (λh19=>?_)
     ·replace hm:=JT h19 hm;refine TS (WT (WN [1,7,62,63] Q Q (TQ (TB (RS (SA TK Q (SA TK Q (TN (WN [1,7,8,62,63] Q Q ?_)))))))));refine RS ?_;iterate 6 (refine SA TK Q ?_)
      refine VE hm λe20 he20 hm=>SX Q Q (tI TK Q Q Q Q he20 (Expr.encR_eq _)) (SA TK Q (BE hm λr21 hr21 hm=>SX Q Q (RN Q Q (SC (.d _) (SC (.d _) SN)) (ih hr21)) (SA TK Q (TN (WN [1,7,62,63,75] Q Q ?_)))));refine TC _ Q (λh22=>?_) (λh22=>?_)
      ·replace hm:=JA h22 hm;refine RS (SA TK Q (TN (WN [4] Q Q (TR (WB (WR (IE hm λv23 hm hz=>?_)))))));rw [hz18 _ hz] at hm;refine WR (WB (IE hm λv24 hm hz=>?_));rw [hz15 _ hz] at hm;refine WR (WB (IE hm λv25 hm hz=>?_));rw [hz1 _ hz] at hm;refine WR ?_;obtain rfl:=OJ hm;exact EndsS.one _ Q (.d _) (.refl _)
      replace hm:=JB h22 hm;refine TS (WK (WT (WN [1,7,62,63] Q Q (TG (GE hm λg26 hm=>SX Q Q (aU Q Q Q Q g26) (SA TK Q (TN ?_)))))));refine WT ?_;exact⟨_,[0],(SJ hm),Q,k0,Q⟩
     replace hm:=JF h19 hm;refine aE (WX (IE hm λv27 hm hz=>?_));rw [hz18 _ hz] at hm;refine WX (WH (WT ?_));exact⟨_,[0],(SJ hm),Q,k0,Q⟩
    refine WN [] Q Q (RS (SA TK Q (TN (WN [4] Q Q (TR (WB (IE hm λv28 hm hz=>?_)))))));rw [hz1 _ hz] at hm;refine WR ?_;obtain rfl:=OJ hm;exact EndsS.one _ Q (.d _) (.refl _)
   rw [if_neg h14] at hm;refine SX Q Q (qPZ Q qRH Q h14 qHX Q) (SA TK Q (SA TK Q (TN (WN [0,1,12,55] Q Q (TC false Q (λh=>by cases h) (λ_=>RS ?_))))));by_cases h29:r2.tid=203
   ·rw [if_pos h29] at hm;refine SX Q Q (qPY Q qRG Q h29) (SA TK Q (SA TK Q (TN (WN [0,1,78,79] Q Q ?_))));refine TC true Q (λ_=>?_) (λh=>by cases h);refine RS (cF 0 Q Q qHW Q (SA TK Q (TN (WN [1,9] Q Q ?_))));refine bK hm (λ_=>([]:Fr)) (λ_=>([]:List (Nat×Blk))) [] [] Q (λz30 hm hz30=>?_) (λj hm=>?_)
    ·refine RS ?_;iterate 5 (refine SA TK Q ?_)
     refine SX Q Q (aM TK Q Q Q) (SA TK Q (TN (WN [1,9,85,86] Q Q (TB (aO hm (λx32=>([(86,.d (.int .i64 x32))]:Fr)) (λx32=>([]:List (Nat×Blk))) [86] [1,9,85] [0] Q k0 Q Q Q Q Q (λx32 z33 hm hz33=>WN [1,9,85,86] Q Q (RS (SA TK Q ?_))))))));refine TN (WN [1,9,85,86,87] Q Q (TQ ?_));refine TC _ Q (λh34=>?_) (λh34=>?_)
     ·replace hm:=JT h34 hm;refine TS (WT (WN [1,9,85,86] Q Q (TQ (TB (RS (SA TK Q (SA TK Q (TN (WN [1,9,10,85,86] Q Q ?_)))))))));refine RS ?_;iterate 6 (refine SA TK Q ?_)
      refine VE hm λe35 he35 hm=>SX Q Q (tI TK Q Q Q Q he35 (Expr.encR_eq _)) (SA TK Q (BE hm λr36 hr36 hm=>SX Q Q (RN Q Q (SC (.d _) (SC (.d _) SN)) (ih hr36)) (TN (WN [1,9,85,86,97] Q Q ?_))));refine TC _ Q (λh37=>?_) (λh37=>?_)
      ·replace hm:=JA h37 hm;refine RS (SA TK Q (TN (WN [4] Q Q (TR (WB (WR (IE hm λv38 hm hz=>?_)))))));rw [hz33 _ hz] at hm;refine WR (WB (IE hm λv39 hm hz=>?_));rw [hz30 _ hz] at hm;refine WR (WB (IE hm λv40 hm hz=>?_));rw [hz1 _ hz] at hm;refine WR ?_;obtain rfl:=OJ hm;exact EndsS.one _ Q (.d _) (.refl _)
      replace hm:=JB h37 hm;refine TS (WK (WT (WN [1,9,85,86] Q Q (TG (GE hm λg41 hm=>SX Q Q (aU Q Q Q Q g41) (SA TK Q (TN ?_)))))));refine WT ?_;exact⟨_,[0],(SJ hm),Q,k0,Q⟩
     replace hm:=JF h34 hm;refine aE (WX (IE hm λv42 hm hz=>?_));rw [hz33 _ hz] at hm;refine WX (WH (WT ?_));exact⟨_,[0],(SJ hm),Q,k0,Q⟩
    refine WN [] Q Q (RS (SA TK Q (TN (WN [4] Q Q (TR (WB (IE hm λv43 hm hz=>?_)))))));rw [hz1 _ hz] at hm;refine WR ?_;obtain rfl:=OJ hm;exact EndsS.one _ Q (.d _) (.refl _)
   rw [if_neg h29] at hm;refine SX Q Q (qPZ Q qRG Q h29 qHW Q) (SA TK Q (SA TK Q (TN (WN [0,1,78] Q Q (TC false Q (λh=>by cases h) (λ_=>TS (WK (WT ?_))))))));exact⟨_,[],(SJ hm),Q,k0,Q⟩
  refine WN [0] Q Q (RS ?_);iterate 6 (refine SA TK Q ?_)
  refine TN (WN [4] Q Q (TR ?_));obtain rfl:=OJ hm;exact EndsS.one _ Q (.d _) (.refl _)
theorem qNA {p0:Expr} {p1:(List Bool)} {r:Bool} (hm:qAU p0 p1=some r):RetN Tryz.prog 120 [.ptr (p0.enc) 0,.sl 1 (p1.map D.bool)] (.bool (r)):=qJU eU hm
theorem qNB {p0:Expr} {p1:(List Bool)} {r:Bool} (hm:rQ p0 p1=some r):RetN Tryz.prog 52 [p0.enc,.sl 1 (p1.map D.bool)] (.bool (r)):=by
 refine .unit (aG zDY Tryz.func52 Q Tryz.ntmps52 Q Q (λwX gX=>?_)) Q;unfold rQ at hm;refine WN [0,1] Q Q (RS (cM 0 Q Q Q (SA TK Q (TN (WN [1,2] Q Q (qRM 0 Q Q Q Q Q (RS (SA TK Q ?_))))))));refine BE hm λr1 hr1 hm=>SX Q Q (RN Q Q (SC (.d _) (SC (.d _) SN)) (qNA hr1)) (SA TK Q (TN (WN [4] Q Q (TR ?_))));obtain rfl:=OJ hm;exact EndsS.one _ Q (.d _) (.refl _)
theorem yQ {p0:Obligation} {p1:Machine} {r:Bool} (hm:jH p0 p1=some r):RetN Tryz.prog 51 [p0.enc,.ptr (p1.enc) 0] (.bool (r)):=by
 refine .unit (aG zDZ Tryz.func51 Q Tryz.ntmps51 Q Q (λwX gX=>?_)) Q;unfold jH at hm;refine WN [0,1] Q Q (RS (cM 0 Q Q Q (SA TK Q (TN (WN [1,2] Q Q (RS ?_))))));iterate 4 (refine SA TK Q ?_)
 refine BE hm λr1 hr1 hm=>SX Q Q (RN Q Q (SC (.d _) (SC (.d _) SN)) (qNB hr1)) (SA TK Q (SA TK Q (TN (WN [3] Q Q (TR ?_)))));obtain rfl:=OJ hm;exact EndsS.one _ Q (.d _) (.refl _)
theorem mY {p0:(List Obligation)} {p1:Obligation→Option Bool} {c1:D} (hf1:∀ a0 r,p1 a0=some r→∃ F cs,qMW c1=some (F,cs)∧RetD Tryz.prog F ([a0.enc]++cs) (.bool (r))) {r:Int} (hm:fK p0 p1=some r):RetN Tryz.prog 50 [.sl 4 (p0.map Obligation.enc),c1] (.int .i64 r):=by
 refine .unit (aG zEA Tryz.func50 Q Tryz.ntmps50 Q Q (λwX gX=>?_)) Q;unfold fK at hm;refine WN [0,1] Q Q (RS (SA TK Q (TN (WN [0,1] Q Q ?_))));refine bK hm (λ_=>([]:Fr)) (λ_=>([]:List (Nat×Blk))) [] [] Q (λz1 hm hz1=>?_) (λj hm=>?_)
 ·refine RS (SA TK Q (SX Q Q (aM TK Q Q Q) (SA TK Q (TN (WN [0,1,7,8] Q Q (TB (aO hm (λx3=>([(8,.d (.int .i64 x3))]:Fr)) (λx3=>([]:List (Nat×Blk))) [8] [0,1,7] [] Q k0 Q Q Q Q Q (λx3 z4 hm hz4=>WN [0,1,7,8] Q Q ?_))))))));refine RS (SA TK Q (TN (WN [0,1,7,8,9] Q Q (TQ ?_))));refine TC _ Q (λh5=>?_) (λh5=>?_)
  ·replace hm:=JT h5 hm;refine TS (WT (WN [0,1,7,8] Q Q (TQ (TB (RS (SA TK Q (SA TK Q (TN (WN [0,1,5,7,8] Q Q ?_)))))))));refine RS (SA TK Q (SA TK Q (SA TK Q (VE hm λe6 he6 hm=>SX Q Q (bF TK Q Q Q Q he6) (SA TK Q (BE hm λr7 hr7 hm=>?_))))));obtain⟨Fr7,csr7,hFr7,hcr7⟩:=hf1 _ _ hr7;refine SX Q Q (qUO Q Q hFr7 Q hcr7) (TN (WN [0,1,5,7,8,16] Q Q ?_));refine TC _ Q (λh8=>?_) (λh8=>?_)
   ·replace hm:=JA h8 hm;refine RS (SA TK Q (SA TK Q (TN (WN [4] Q Q (TR (WB (WR (IE hm λv9 hm hz=>?_))))))));rw [hz4 _ hz] at hm;refine WR (WB (IE hm λv10 hm hz=>?_));rw [hz1 _ hz] at hm;refine WR ?_;obtain rfl:=OJ hm;exact EndsS.one _ Q (.d _) (.refl _)
   replace hm:=JB h8 hm;refine TS (WK (WT (WN [0,1,7,8] Q Q (TG (GE hm λg11 hm=>SX Q Q (aU Q Q Q Q g11) (SA TK Q (TN ?_)))))));refine WT ?_;exact⟨_,[],(SJ hm),Q,k0,Q⟩
  replace hm:=JF h5 hm;refine aE (WX (IE hm λv12 hm hz=>?_));rw [hz4 _ hz] at hm;refine WX (WH (WT ?_));exact⟨_,[],(SJ hm),Q,k0,Q⟩
 refine WN [] Q Q (RS (SA TK Q (TN (WN [4] Q Q (TR ?_)))));obtain rfl:=OJ hm;exact EndsS.one _ Q (.d _) (.refl _)
theorem uH {p0:(List Obligation)} {p1:Machine} {r:Int} (hm:iZ p0 p1=some r):RetN Tryz.prog 18 [.sl 4 (p0.map Obligation.enc),p1.enc] (.int .i64 r):=by
 refine .unit (aG zEP Tryz.func18 Q Tryz.ntmps18 Q Q (λwX gX=>?_)) Q;unfold iZ at hm;refine WN [0,1] Q Q (RS (cM 0 Q Q Q (SA TK Q (TN (WN [0,3] Q Q (qRM 0 Q Q Q Q Q (RS (SA TK Q (SA TK Q ?_)))))))));refine BE hm λr1 hr1 hm=>SX Q Q (RN Q Q (SC (.d _) (SC (.d _) SN)) (mY (λ_ r h=>⟨51,_,Q,(yQ h).retD⟩) hr1)) (SA TK Q (TN (WN [4] Q Q (TR ?_))));obtain rfl:=OJ hm;exact EndsS.one _ Q (.d _) (.refl _)
theorem qC {p0:Program} {p1:Expr} {r0:Expr} {r1:Int} (hm:kQ p0 p1=some (r0,r1)):Ret Tryz.prog 21 [.flat 64 6 (p0.rungs.map Rung.enc)] (λ_=>false) [.agg [.d (.sl 1 (p0.names.map D.str)),.d (.int .i64 p0.inputs),.msl 0 6 0 p0.rungs.length],.d (p1.enc)] (.tup [.d (r0.enc),.d (.int .i64 r1)]) [.flat 64 6 (p0.rungs.map Rung.enc)]:=by
 refine cU zEO Tryz.func21 Q Tryz.ntmps21 Q Q (λwX gX=>?_);unfold kQ at hm;refine WN [0,1] Q Q (RS (cM 1 Q Q Q (cM 2 Q Q Q (cF 3 Q Q aN Q (cN 3 [none,none,some 3] Q Q (SA TK Q (TN (WN [2,3,4] Q Q ?_))))))));refine RS (SA TK Q (SA TK Q (SX Q Q (aM TK Q Q Q) (SA TK Q (TN (WN [2,3,4,6] Q Q (TQ ?_)))))));refine aH hm (λx1=>([(23,.d (.bool (x1)))]:Fr)) (λx1=>([]:List (Nat×Blk))) [23] [2,3,4,6] Q (λz2 hm=>?_) (λx1 hm=>?_)
 ·refine TG (SA TK Q (BE hm λr3 hr3 hm=>SX Q Q (RN Q Q (SC (fG (.cons (.d _) Q (.cons (.d _) Q (.cons (bO Q) Q .nil)))) SN) (qLW hr3)) (SA TK Q (SB TK Q (λq4 hq4=>?_)))));cases q4
  ·replace hm:=gP hq4 hm;refine SA TK Q (SA TK Q (BE hm λr5 hr5 hm=>SX Q Q (RN Q Q (SC (.d _) (SC (.d _) SN)) (sT hr5)) (SA TK Q (SA TK Q (TN (WT ?_))))));exact⟨_,[0,1,2,3],(SJ hm),Q,(kB Q),Q⟩
  replace hm:=gO hq4 hm;iterate 5 (refine SA TK Q ?_)
  refine TN (WT ?_);exact⟨_,[0,1,2,3],(SJ hm),Q,(kB Q),Q⟩
 refine WN [2,3,4,6,23] Q Q ?_;refine TC _ Q (λh6=>?_) (λh6=>?_)
 ·replace hm:=JA h6 hm;refine RS (SX Q Q (bR Q nC aN Q Q Q Q) (qKV 24 [none,none,some 3] Q (SA TK Q (SA TK Q (TN (WN [4,5] Q Q (TR (WR ?_))))))));obtain⟨rfl,rfl⟩:=Prod.mk.inj (Option.some.inj hm);exact⟨_,[0],.mk _ (.cons (.agg (TK.lay Q) Q Q Q Q) (.cons (.tmp 5) .nil)) Q,by decide,(kB Q),Q,Q⟩
 replace hm:=JB h6 hm;refine TS (WT (WN [2,3,4,6] Q Q (RS ?_)));iterate 4 (refine SA TK Q ?_)
 refine GE hm λg7 hm=>SX Q Q (aU Q Q Q Q g7) (SA TK Q (TN (WN [2,3,4,6,7] Q Q (RS (SA TK Q (SX Q Q (bR Q nC aN Q Q Q Q) (qKV 31 [none,none,some 3] Q ?_)))))));refine BE hm λr8 hr8 hm=>SX Q Q (RD Q Q Q (uP hr8)) (cF 4 Q Q aN Q (cN 4 [none,none,some 3] Q Q (SA TK Q (TN (WN [2,4,6,7,8] Q Q ?_)))));refine bK hm (λ(c9,c10,c11)=>([]:Fr)) (λ(c9,c10,c11)=>([(4,.box 40 [.d (.int .i64 c9),.d (.int .i64 c10),.d (.sl 3 (c11.map Expr.encR))])]:List (Nat×Blk))) [] [4,8] Q (λz12 hm hz12=>?_) (λj hm=>?_)
 ·refine RS (SA TK Q (SA TK Q (SA TK Q (GE hm λg13 hm=>SX Q Q (aU Q Q Q Q g13) (SA TK Q (TN (WN [2,4,6,7,8,9] Q Q (TB (aO hm (λ(i19,c20,c21,c22)=>([(9,.d (.int .i64 i19))]:Fr)) (λ(i19,c20,c21,c22)=>([(4,.box 40 [.d (.int .i64 c20),.d (.int .i64 c21),.d (.sl 3 (c22.map Expr.encR))])]:List (Nat×Blk))) [9] [2,4,6,7,8] [0,1,2,3,4] Q (kB Q) Q Q Q Q Q (λs z23 hm hz23=>?_))))))))));obtain⟨i19,c20,c21,c22⟩:=s;refine WN [2,4,6,7,8,9] Q Q (TQ (RS (SA TK Q (SA TK Q (TN (WN [2,4,6,7,8,9,38] Q Q ?_))))));refine TC _ Q (λh24=>?_) (λh24=>?_)
  ·replace hm:=JT h24 hm;refine TS (WT (WN [2,4,6,7,8,9] Q Q (TQ (TB (RS (SA TK Q (SA TK Q (SA TK Q (VE hm λe25 he25 hm=>SX Q Q (pT TK Q Q Q Q he25 Q) ?_)))))))));refine SX Q Q (wG TK Q Q Q Q he25.2 Q) (cF 5 Q Q lH Q (cN 5 [none,none,none,none,none,some 3] Q Q (SA TK Q (TN (WN [2,4,6,7,8,9,10] Q Q (RS (SA TK Q (SA TK Q (cF 6 Q Q aN Q ?_)))))))));refine cN 6 [none,none,some 3] Q Q (SA TK Q (TN (WN [2,4,6,7,8,9,10,11] Q Q ?_)));refine aH hm (λ(c26,c27,c28)=>([]:Fr)) (λ(c26,c27,c28)=>([(6,.box 40 [.d (.int .i64 c26),.d (.int .i64 c27),.d (.sl 3 (c28.map Expr.encR))])]:List (Nat×Blk))) [] [2,4,6,7,8,9,10,11] Q (λz29 hm=>?_) (λj hm=>?_)
   ·refine RS (SA TK Q (SA TK Q (SA TK Q (TN (WN [2,4,6,7,8,9,10,11,50] Q Q ?_)))));refine TC _ Q (λh30=>?_) (λh30=>?_)
    ·replace hm:=JT h30 hm;refine TG (SA TK Q (SA TK Q (GE hm λg31 hm=>SX Q Q (aU Q Q Q Q g31) (SX Q Q (bR Q nC aN Q Q Q Q) (qKV 54 [none,none,some 3] Q (SA TK Q (TN (WT ?_))))))));exact⟨_,[0,1,2,3,4,5,6],(SJ hm),Q,(kB Q),Q⟩
    replace hm:=JF h30 hm;refine TS (WT ?_);exact⟨_,[0,1,2,3,4,5,6],(SJ hm),Q,(kB Q),Q⟩
   obtain⟨c26,c27,c28⟩:=j;refine WN [2,4,6,7,8,9,10,11] Q Q (TQ (bM follows  (DA [0,1,2,3,4,5,6] TK Q (BE hm λr32 hr32 hm=>DX [0,1,2,3,4,5,6] Q Q (RN Q Q (SC (.d _) SN) (qBP hr32)) ?_))));iterate 3 (refine DA [0,1,2,3,4,5,6] TK Q ?_)
   refine BE hm λr33 hr33 hm=>DX [0,1,2,3,4,5,6] Q Q (RN Q Q (SC (.d _) (SC (.d _) SN)) (qCB hr33)) (DA [0,1,2,3,4,5,6] TK Q (BE hm λr34 hr34 hm=>DX [0,1,2,3,4,5,6] Q Q (RN Q Q (SC (.d _) SN) (qBP hr34)) (GE hm λg35 hm=>DX [0,1,2,3,4,5,6] Q Q (aU Q Q Q Q g35) (GE hm λg36 hm=>DX [0,1,2,3,4,5,6] Q Q (aU Q Q Q Q g36) ?_))));refine GE hm λg37 hm=>DX [0,1,2,3,4,5,6] Q Q (aU Q Q Q Q g37) (DA [0,1,2,3,4,5,6] TK Q ?_);refine DT ?_ (by kernel_rfl);refine TN (WN [2,4,6,7,8,9,10,11,66] Q Q ?_);refine TC _ Q (λh38=>?_) (λh38=>?_)
   ·replace hm:=JT h38 hm;refine RS (SX Q Q (bR Q nC aN Q Q Q Q) (qKV 67 [none,none,some 3] Q (SA TK Q (SA TK Q (TN (WN [4,5] Q Q (TR (WR (WB ?_)))))))));refine WR (IE hm λv39 hm hz=>?_);rw [hz23 _ hz] at hm;refine WR (WB (IE hm λv40 hm hz=>?_));rw [hz12 _ hz] at hm;refine WR ?_;obtain⟨rfl,rfl⟩:=Prod.mk.inj (Option.some.inj hm);exact⟨_,[0],.mk _ (.cons (.agg (TK.lay Q) Q Q Q Q) (.cons (.tmp 5) .nil)) Q,by decide,(kB Q),Q,Q⟩
   replace hm:=JF h38 hm;refine TS (WT (WN [2,4,6,7,8,9,10,11] Q Q (RS ?_)));iterate 4 (refine SA TK Q ?_)
   refine BE hm λr41 hr41 hm=>SX Q Q (RD Q Q Q (uP hr41)) (SA TK Q (TN (WN [2,4,6,7,8,9] Q Q (RS (SA TK Q (SA TK Q (BE hm λr42 hr42 hm=>SX Q Q (RN Q Q (SC (.d _) (SC (.d _) SN)) (sT hr42)) ?_)))))));refine SA TK Q (TN (WN [2,4,6,7,8,9,76] Q Q ?_));refine TC _ Q (λh43=>?_) (λh43=>?_)
   ·replace hm:=JA h43 hm;refine RS (SX Q Q (bR Q nC aN Q Q Q Q) (qKV 77 [none,none,some 3] Q (SA TK Q (SA TK Q (TN (WN [4,5] Q Q (TR (WB (WR ?_)))))))));refine IE hm λv44 hm hz=>?_;rw [hz23 _ hz] at hm;refine WR (WB (IE hm λv45 hm hz=>?_));rw [hz12 _ hz] at hm;refine WR ?_;obtain⟨rfl,rfl⟩:=Prod.mk.inj (Option.some.inj hm);exact⟨_,[0],.mk _ (.cons (.agg (TK.lay Q) Q Q Q Q) (.cons (.tmp 5) .nil)) Q,by decide,(kB Q),Q,Q⟩
   replace hm:=JB h43 hm;refine TS (WK (WT (WN [2,4,6,7,8,9] Q Q (TG (SA TK Q (GE hm λg46 hm=>SX Q Q (aU Q Q Q Q g46) (SA TK Q ?_)))))));refine TN (WT ?_);exact⟨_,[0,1,2,3,4],(SJ hm),Q,(kB Q),Q⟩
  replace hm:=JF h24 hm;refine aE (WX (IE hm λv47 hm hz=>?_));rw [hz23 _ hz] at hm;refine WX (WH (WT ?_));exact⟨_,[0,1,2,3,4],(SJ hm),Q,(kB Q),Q⟩
 obtain⟨c9,c10,c11⟩:=j;refine WN [4,8] Q Q (RS (SA TK Q (SA TK Q (SA TK Q (TN (WN [4,5] Q Q (TR ?_)))))));obtain⟨rfl,rfl⟩:=Prod.mk.inj (Option.some.inj hm);exact⟨_,[0],.mk _ (.cons (.agg (TK.lay Q) Q Q Q Q) (.cons (.tmp 5) .nil)) Q,by decide,(kB Q),Q,Q⟩
theorem qW  {r:Bool} (hm:lE=some r):RetN Tryz.prog 10 [] (.bool (r)):=by
 refine .unit (aG zES Tryz.func10 Q Tryz.ntmps10 Q Q (λwX gX=>?_)) Q;unfold lE at hm;refine WN [] Q Q (RS (SA TK Q (TN (WN [] Q Q (RS (BE hm λr1 hr1 hm=>SX Q Q (RD Q Q Q (qJN hr1)) (BE hm λr2 hr2 hm=>?_)))))));obtain⟨r3,r4⟩:=r2;refine SX Q Q (eS Q Q Q (qFW hr2)) (SA TK Q (SA TK Q (SA TK Q (cF 0 Q Q qDA Q (cN 0 [some 14,some 1,some 1,none,none] Q Q (SA TK Q (SA TK Q (TN (WN [1] Q Q (RS (SA TK Q ?_)))))))))));refine BE hm λr5 hr5 hm=>?_;obtain⟨r6,r7⟩:=r5;refine SX Q Q (eS Q Q Q (yR hr5)) ?_;iterate 5 (refine SA TK Q ?_)
 refine TN (WN [3,4] Q Q (RS (SX Q Q (cX [.const (Value.string ⟨#[97]⟩),.const (Value.string ⟨#[98]⟩)] TK Q Q kD Q Q Q Q Q) (BE hm λr8 hr8 hm=>SX Q Q (RD Q Q Q (rN hr8)) (SX Q Q (bR Q qQN lH Q Q Q Q) (qDK (f:=Rung.enc) 1 [.tmp 22] ([(⟨(1:Int),(1:Int),(0:Int),r8⟩:Rung)]:List Rung) TK Q Q Q lH Q Q Q Q Q (SX Q Q (gK Q qUS zN Q Q Q Q) ?_)))))));refine cF 2 Q Q zN Q (eB (f:=Rung.enc) 2 2 3 64 6 Q Q Q (cN 2 [some 1,none,none] Q Q (SA TK Q (TN (WN [3,4,5] Q Q (fA (bM follows  (DA [2] TK Q ?_))))))));refine BE hm λr9 hr9 hm=>DX [] Q Q (RD Q Q Q (rN hr9)) (BE hm λr10 hr10 hm=>?_);obtain⟨r11,r12⟩:=r10;refine DX [1] Q Q (aR [1] ⟨Q,Q,λ_=>Q⟩ Q Q Q (by decide) Q (aJ Q) Q Q (qC hr10)) ?_;iterate 3 (refine DA [] TK Q ?_)
 refine qX [4] _ (.mptr 4 0 0 0) Q (gZ Q) Q (mP Q Q aN Q Q) (qND 1000002 [4] [(4,.box 40 [.d (.int .i64 r11.op),.d (.int .i64 r11.var),.d (.sl 3 (r11.args.map Expr.encR))])] (gZ Q) Q (tL TK Q Q Q Q Q Q Q Q Q Q) ?_);refine DT ?_ (by kernel_rfl);refine SA TK Q (TN (WN [3,4,5,6,7] Q Q (RS (SA TK Q (SA TK Q (VE hm λe13 he13 hm=>SX Q Q (pT TK Q Q Q Q he13 Q) (SA TK Q (qGX (x':=(⟨(2:Int),e13.var,e13.preset,e13.expr⟩:Rung)) TK Q Q Q Q Q he13.2 Q Q Q ?_))))))));refine qBE 32 (([(⟨(1:Int),(1:Int),(0:Int),r8⟩:Rung)]:List Rung).set (0:Int).toNat (⟨(2:Int),e13.var,e13.preset,e13.expr⟩:Rung)).length Q List.length_set.symm ?_;refine qQJ 2 [.d (.sl 1 (([(⟨#[97]⟩:ByteArray),(⟨#[98]⟩:ByteArray)]:List ByteArray).map D.str)),.d (.int .i64 (1:Int)),.msl 1 6 0 (([(⟨(1:Int),(1:Int),(0:Int),r8⟩:Rung)]:List Rung).set (0:Int).toNat (⟨(2:Int),e13.var,e13.preset,e13.expr⟩:Rung)).length] Q (by simp only [List.length_set]<;>rfl) ?_;refine TN (WN [3,4,5,6,7] Q Q (RS (SA TK Q (SA TK Q (VE hm λe14 he14 hm=>SX Q Q (pT TK Q Q Q Q he14 Q) (SA TK Q (qGX (x':=(⟨e14.kind,e14.var,(2:Int),e14.expr⟩:Rung)) TK Q Q Q Q Q he14.2 Q Q Q (qBE 36 ((([(⟨(1:Int),(1:Int),(0:Int),r8⟩:Rung)]:List Rung).set (0:Int).toNat (⟨(2:Int),e13.var,e13.preset,e13.expr⟩:Rung)).set (0:Int).toNat (⟨e14.kind,e14.var,(2:Int),e14.expr⟩:Rung)).length Q List.length_set.symm ?_))))))));refine qQJ 2 [.d (.sl 1 (([(⟨#[97]⟩:ByteArray),(⟨#[98]⟩:ByteArray)]:List ByteArray).map D.str)),.d (.int .i64 (1:Int)),.msl 1 6 0 ((([(⟨(1:Int),(1:Int),(0:Int),r8⟩:Rung)]:List Rung).set (0:Int).toNat (⟨(2:Int),e13.var,e13.preset,e13.expr⟩:Rung)).set (0:Int).toNat (⟨e14.kind,e14.var,(2:Int),e14.expr⟩:Rung)).length] Q (by simp only [List.length_set]<;>rfl) ?_;refine TN (WN [3,4,5,6,7] Q Q (fA (bM follows  (DA [2] TK Q (BE hm λr15 hr15 hm=>DX [] Q Q (RD Q Q Q (rN hr15)) (BE hm λr16 hr16 hm=>?_))))));obtain⟨r17,r18⟩:=r16;refine DX [1] Q Q (aR [1] ⟨Q,Q,λ_=>Q⟩ Q Q Q (by decide) Q (aJ Q) Q Q (qC hr16)) ?_;iterate 3 (refine DA [] TK Q ?_)
 refine qX [5] _ (.mptr 5 0 0 0) Q (gZ Q) Q (mP Q Q aN Q Q) (qND 1000004 [5] [(5,.box 40 [.d (.int .i64 r17.op),.d (.int .i64 r17.var),.d (.sl 3 (r17.args.map Expr.encR))])] (gZ Q) Q (tL TK Q Q Q Q Q Q Q Q Q Q) ?_);refine DT ?_ (by kernel_rfl);refine SA TK Q (TN (WN [3,4,6,7,8,9] Q Q ?_));refine aH hm (λx19=>([(0,.d (.bool (x19)))]:Fr)) (λx19=>([]:List (Nat×Blk))) [0] [] Q (λz20 hm=>?_) (λx19 hm=>?_)
 ·refine bW follows  ?_;iterate 2 (refine DA [0,1,2,3,4,5] TK Q ?_)
  refine d_b [0,1,2,3,4,5] TK Q (λq21 hq21=>?_);cases q21
  ·replace hm:=JF hq21 hm;iterate 42 (refine DA [0,1,2,3,4,5] TK Q ?_)
   refine DT ?_ (by kernel_rfl);refine SA TK Q (TN (WT ?_));exact⟨_,[0,1,2,3,4,5],(SJ hm),Q,k0,Q⟩
  replace hm:=JT hq21 hm;refine DA [0,1,2,3,4,5] TK Q (DX [0,1,2,3,4,5] Q Q (aM TK Q Q Q) ?_);iterate 2 (refine DA [0,1,2,3,4,5] TK Q ?_)
  refine d_b [0,1,2,3,4,5] TK Q (λq22 hq22=>?_);cases q22
  ·replace hm:=JF hq22 hm;iterate 37 (refine DA [0,1,2,3,4,5] TK Q ?_)
   refine DT ?_ (by kernel_rfl);refine SA TK Q (TN (WT ?_));exact⟨_,[0,1,2,3,4,5],(SJ hm),Q,k0,Q⟩
  replace hm:=JT hq22 hm;refine DA [0,1,2,3,4,5] TK Q (VE hm λe23 he23 hm=>DX [0,1,2,3,4,5] Q Q (bF TK Q Q Q Q he23) ?_);iterate 4 (refine DA [0,1,2,3,4,5] TK Q ?_)
  refine d_b [0,1,2,3,4,5] TK Q (λq24 hq24=>?_);cases q24
  ·replace hm:=JF hq24 hm;iterate 30 (refine DA [0,1,2,3,4,5] TK Q ?_)
   refine DT ?_ (by kernel_rfl);refine SA TK Q (TN (WT ?_));exact⟨_,[0,1,2,3,4,5],(SJ hm),Q,k0,Q⟩
  replace hm:=JT hq24 hm;refine DA [0,1,2,3,4,5] TK Q (VE hm λe25 he25 hm=>DX [0,1,2,3,4,5] Q Q (bF TK Q Q Q Q he25) ?_);iterate 4 (refine DA [0,1,2,3,4,5] TK Q ?_)
  refine d_b [0,1,2,3,4,5] TK Q (λq26 hq26=>?_);cases q26
  ·replace hm:=JF hq26 hm;iterate 23 (refine DA [0,1,2,3,4,5] TK Q ?_)
   refine DT ?_ (by kernel_rfl);refine SA TK Q (TN (WT ?_));exact⟨_,[0,1,2,3,4,5],(SJ hm),Q,k0,Q⟩
  replace hm:=JT hq26 hm;iterate 3 (refine DA [0,1,2,3,4,5] TK Q ?_)
  refine d_b [0,1,2,3,4,5] TK Q (λq27 hq27=>?_);cases q27
  ·replace hm:=JF hq27 hm;iterate 19 (refine DA [0,1,2,3,4,5] TK Q ?_)
   refine DT ?_ (by kernel_rfl);refine SA TK Q (TN (WT ?_));exact⟨_,[0,1,2,3,4,5],(SJ hm),Q,k0,Q⟩
  replace hm:=JT hq27 hm;refine DA [0,1,2,3,4,5] TK Q (BE hm λr28 hr28 hm=>DX [0,1,2,3,4,5] Q Q (RD Q Q Q (rN hr28)) (BE hm λr29 hr29 hm=>DX [0,1,2,3,4,5] Q Q (RN Q Q (SC (.d _) (SC (.d _) SN)) (yF hr29)) (DA [0,1,2,3,4,5] TK Q (d_b [0,1,2,3,4,5] TK Q (λq30 hq30=>?_)))));cases q30
  ·replace hm:=JB hq30 hm;iterate 14 (refine DA [0,1,2,3,4,5] TK Q ?_)
   refine DT ?_ (by kernel_rfl);refine SA TK Q (TN (WT ?_));exact⟨_,[0,1,2,3,4,5],(SJ hm),Q,k0,Q⟩
  replace hm:=JA hq30 hm;iterate 3 (refine DA [0,1,2,3,4,5] TK Q ?_)
  refine d_b [0,1,2,3,4,5] TK Q (λq31 hq31=>?_);cases q31
  ·replace hm:=JF hq31 hm;iterate 10 (refine DA [0,1,2,3,4,5] TK Q ?_)
   refine DT ?_ (by kernel_rfl);refine SA TK Q (TN (WT ?_));exact⟨_,[0,1,2,3,4,5],(SJ hm),Q,k0,Q⟩
  replace hm:=JT hq31 hm;refine DA [0,1,2,3,4,5] TK Q (BE hm λr32 hr32 hm=>DX [0,1,2,3,4,5] Q Q (RD Q Q Q (rN hr32)) (BE hm λr33 hr33 hm=>DX [0,1,2,3,4,5] Q Q (RN Q Q (SC (.d _) (SC (.d _) SN)) (yF hr33)) (DA [0,1,2,3,4,5] TK Q (d_b [0,1,2,3,4,5] TK Q (λq34 hq34=>?_)))));cases q34
  ·replace hm:=JB hq34 hm;iterate 5 (refine DA [0,1,2,3,4,5] TK Q ?_)
   refine DT ?_ (by kernel_rfl);refine SA TK Q (TN (WT ?_));exact⟨_,[0,1,2,3,4,5],(SJ hm),Q,k0,Q⟩
  replace hm:=JA hq34 hm;refine DA [0,1,2,3,4,5] TK Q (DX [0,1,2,3,4,5] Q Q (bR Q zFS qNT Q Q Q Q) (BE hm λr35 hr35 hm=>DX [0,1,2,3,4,5] Q Q (RN Q Q (SC (.d _) (SC (.d _) SN)) ((uH hr35).args ((.cons (.refl _) (.cons (.agg (.cons (.nil _) Q (.cons (.nil _) Q (.cons (.refl _) Q .nil)))) .nil))))) ?_));iterate 2 (refine DA [0,1,2,3,4,5] TK Q ?_)
  refine DT ?_ (by kernel_rfl);refine SA TK Q (TN (WT ?_));exact⟨_,[0,1,2,3,4,5],(SJ hm),Q,k0,Q⟩
 refine WN [0] Q Q (TR ?_);obtain rfl:=OJ hm;exact EndsS.one _ Q (.d _) (.refl _)
theorem zY {p0:Table} {p1:(List Int)} {r:Bool} (hm:jT p0 p1=some r):RetN Tryz.prog 155 [p0.enc,.sl 1 (p1.map (D.int .i64))] (.bool (r)):=by
 refine .unit (aG qZB Tryz.func155 Q Tryz.ntmps155 Q Q (λwX gX=>?_)) Q;unfold jT at hm;refine WN [0,1] Q Q (RS (cM 0 Q Q Q (SA TK Q (TN (WN [1,2] Q Q ?_)))));refine bK hm (λ_=>([]:Fr)) (λ_=>([]:List (Nat×Blk))) [] [] Q (λz1 hm hz1=>?_) (λj hm=>?_)
 ·refine RS (SA TK Q (SX Q Q (aM TK Q Q Q) (SA TK Q (TN (WN [1,2,8,9,10] Q Q (TB (aO hm (λx3=>([(10,.d (.int .i64 x3))]:Fr)) (λx3=>([]:List (Nat×Blk))) [10] [1,2,8,9] [0] Q k0 Q Q Q Q Q (λx3 z4 hm hz4=>WN [1,2,8,9,10] Q Q ?_))))))));refine RS (SA TK Q (TN (WN [1,2,8,9,10,11] Q Q (TQ ?_))));refine TC _ Q (λh5=>?_) (λh5=>?_)
  ·replace hm:=JT h5 hm;refine TS (WT (WN [1,2,8,9,10] Q Q ?_));refine bK hm (λ_=>([]:Fr)) (λ_=>([]:List (Nat×Blk))) [] [1,2,8,9,10] Q (λz6 hm hz6=>?_) (λj hm=>?_)
   ·refine TB (RS (SA TK Q (VE hm λe7 he7 hm=>SX Q Q (bF TK Q Q Q Q he7) (SA TK Q (SA TK Q (SA TK Q (TN (WN [1,2,5,6,8,9,10] Q Q (TQ ?_)))))))));refine fM [(22,.d (.bool (((decide (e7 < (0:Int)))||(decide (p0.sections≤e7))))))] [22] [1,2,5,6,8,9,10] Q ?_ ?_
    ·refine TG (SA TK Q (SA TK Q (SB TK Q (λq8 hq8=>?_))));cases q8
     ·iterate 5 (refine SA TK Q ?_)
      refine TN (WT ?_);exact⟨[0],Q,k0,bE (aK (aL (by first|(simp [hq8];done)|(simp only [hq8];simp))) Q) Q⟩
     iterate 5 (refine SA TK Q ?_)
     refine TN (WT ?_);exact⟨[0],Q,k0,bE (aK (aL (by first|(simp [hq8];done)|(simp only [hq8];simp))) Q) Q⟩
    refine WN [1,2,5,6,8,9,10,22] Q Q ?_;refine TC _ Q (λh9=>?_) (λh9=>?_)
    ·replace hm:=JA h9 hm;refine RS (SA TK Q (TN (WN [4] Q Q (TR (WR (WB (IE hm λv10 hm hz=>?_)))))));rw [hz6 _ hz] at hm;refine WR (IE hm λv11 hm hz=>?_);rw [hz4 _ hz] at hm;refine WR (WB (IE hm λv12 hm hz=>?_));rw [hz1 _ hz] at hm;refine WR ?_;obtain rfl:=OJ hm;exact EndsS.one _ Q (.d _) (.refl _)
    replace hm:=JB h9 hm;refine TS (WT (WN [1,2,5,6,8,9,10] Q Q (RS (SA TK Q (SA TK Q (TN (WN [1,2,6,8,9,10,23,24] Q Q (TB (aO hm (λx14=>([(24,.d (.int .i64 x14))]:Fr)) (λx14=>([]:List (Nat×Blk))) [24] [1,2,6,8,9,10,23] [0] Q k0 Q Q Q Q Q (λx14 z15 hm hz15=>?_))))))))));refine WN [1,2,6,8,9,10,23,24] Q Q (RS (SA TK Q (TN (WN [1,2,6,8,9,10,23,24,25] Q Q (TQ ?_)))));refine TC _ Q (λh16=>?_) (λh16=>?_)
    ·replace hm:=JT h16 hm;refine TS (WT (WN [1,2,6,8,9,10,23,24] Q Q (TQ (TB (RS (SA TK Q (SA TK Q (TN (WN [1,2,6,7,8,9,10,23,24] Q Q ?_)))))))));refine RS (SA TK Q (SA TK Q (VE hm λe17 he17 hm=>SX Q Q (bF TK Q Q Q Q he17) (SA TK Q (SA TK Q (SA TK Q (TN (WN [1,2,6,8,9,10,23,24,32] Q Q ?_))))))));refine TC _ Q (λh18=>?_) (λh18=>?_)
     ·replace hm:=JT h18 hm;refine RS (SA TK Q (TN (WN [4] Q Q (TR (WB (WR (IE hm λv19 hm hz=>?_)))))));rw [hz15 _ hz] at hm;refine WR (WB (WB (IE hm λv20 hm hz=>?_)));rw [hz6 _ hz] at hm;refine WR (IE hm λv21 hm hz=>?_);rw [hz4 _ hz] at hm;refine WR (WB (IE hm λv22 hm hz=>?_));rw [hz1 _ hz] at hm;refine WR ?_;obtain rfl:=OJ hm;exact EndsS.one _ Q (.d _) (.refl _)
     replace hm:=JF h18 hm;refine TS (WK (WT (WN [1,2,6,8,9,10,23,24] Q Q (TG (GE hm λg23 hm=>SX Q Q (aU Q Q Q Q g23) (SA TK Q (TN ?_)))))));refine WT ?_;exact⟨_,[0],(SJ hm),Q,k0,Q⟩
    replace hm:=JF h16 hm;refine aE (WX (IE hm λv24 hm hz=>?_));rw [hz15 _ hz] at hm;refine WX (WH (WK (WT ?_)));exact⟨_,[0],(SJ hm),Q,k0,Q⟩
   refine WN [1,2,8,9,10] Q Q (TG (GE hm λg25 hm=>SX Q Q (aU Q Q Q Q g25) (SA TK Q (TN (WT ?_)))));exact⟨_,[0],(SJ hm),Q,k0,Q⟩
  replace hm:=JF h5 hm;refine aE (WX (IE hm λv26 hm hz=>?_));rw [hz4 _ hz] at hm;refine WX (WH (WT ?_));exact⟨_,[0],(SJ hm),Q,k0,Q⟩
 refine WN [] Q Q (RS (SA TK Q (TN (WN [4] Q Q (TR ?_)))));obtain rfl:=OJ hm;exact EndsS.one _ Q (.d _) (.refl _)
theorem qFT {p0:Table} {p1:Route} {r:Bool} (hm:lC p0 p1=some r):RetN Tryz.prog 78 [p0.enc,p1.enc] (.bool (r)):=by
 refine .unit (aG zDM Tryz.func78 Q Tryz.ntmps78 Q Q (λwX gX=>?_)) Q;unfold lC at hm;refine WN [0,1] Q Q (RS (cM 0 Q Q Q (cM 1 Q Q Q (SA TK Q (TN (WN [2,3] Q Q (TQ ?_)))))));refine fM [(44,.d (.bool (((decide (p1.entry < (0:Int)))||((decide (p0.signals≤p1.entry))||((decide (p1.exit < (-1:Int)))||((decide (p0.signals≤p1.exit))||((decide ((p1.path.length:Int) < (1:Int)))||((decide ((12:Int) < (p1.path.length:Int)))||(decide (p1.length < (1:Int))))))))))))] [44] [2,3] Q ?_ ?_
 ·refine TG (SA TK Q (SA TK Q (SA TK Q (SB TK Q (λq1 hq1=>?_)))));cases q1
  ·iterate 6 (refine SA TK Q ?_)
   refine SB TK Q (λq2 hq2=>?_);cases q2
   ·iterate 4 (refine SA TK Q ?_)
    refine SB TK Q (λq3 hq3=>?_);cases q3
    ·iterate 6 (refine SA TK Q ?_)
     refine SB TK Q (λq4 hq4=>?_);cases q4
     ·refine SA TK Q (SA TK Q (SX Q Q (aM TK Q Q Q) (SA TK Q (SA TK Q (SB TK Q (λq5 hq5=>?_))))));cases q5
      ·refine SA TK Q (SA TK Q (SX Q Q (aM TK Q Q Q) (SA TK Q (SA TK Q (SB TK Q (λq6 hq6=>?_))))));cases q6
       ·iterate 4 (refine SA TK Q ?_)
        refine TN (WT ?_);exact⟨[0,1],Q,k0,bE (aK (aL (by first|(simp [hq1,hq2,hq3,hq4,hq5,hq6];done)|(simp only [hq1,hq2,hq3,hq4,hq5,hq6];simp))) Q) Q⟩
       iterate 4 (refine SA TK Q ?_)
       refine TN (WT ?_);exact⟨[0,1],Q,k0,bE (aK (aL (by first|(simp [hq1,hq2,hq3,hq4,hq5,hq6];done)|(simp only [hq1,hq2,hq3,hq4,hq5,hq6];simp))) Q) Q⟩
      iterate 10 (refine SA TK Q ?_)
      refine TN (WT ?_);exact⟨[0,1],Q,k0,bE (aK (aL (by first|(simp [hq1,hq2,hq3,hq4,hq5];done)|(simp only [hq1,hq2,hq3,hq4,hq5];simp))) Q) Q⟩
     iterate 16 (refine SA TK Q ?_)
     refine TN (WT ?_);exact⟨[0,1],Q,k0,bE (aK (aL (by first|(simp [hq1,hq2,hq3,hq4];done)|(simp only [hq1,hq2,hq3,hq4];simp))) Q) Q⟩
    iterate 23 (refine SA TK Q ?_)
    refine TN (WT ?_);exact⟨[0,1],Q,k0,bE (aK (aL (by first|(simp [hq1,hq2,hq3];done)|(simp only [hq1,hq2,hq3];simp))) Q) Q⟩
   iterate 28 (refine SA TK Q ?_)
   refine TN (WT ?_);exact⟨[0,1],Q,k0,bE (aK (aL (by first|(simp [hq1,hq2];done)|(simp only [hq1,hq2];simp))) Q) Q⟩
  iterate 35 (refine SA TK Q ?_)
  refine TN (WT ?_);exact⟨[0,1],Q,k0,bE (aK (aL (by first|(simp [hq1];done)|(simp only [hq1];simp))) Q) Q⟩
 refine WN [2,3,44] Q Q ?_;refine TC _ Q (λh7=>?_) (λh7=>?_)
 ·replace hm:=JA h7 hm;refine RS (SA TK Q (TN (WN [4] Q Q (TR (WR ?_)))));obtain rfl:=OJ hm;exact EndsS.one _ Q (.d _) (.refl _)
 replace hm:=JB h7 hm;refine TS (WT (WN [2,3] Q Q (RS (gB (f:=(D.int .i64)) 2 3 1 Q Q Q (TN (WN [2,3,5] Q Q (RS (SA TK Q (SA TK Q (SA TK Q ?_))))))))));refine GE hm λg8 hm=>dM (f:=(D.int .i64)) p1.sections TK Q Q dY Q Q Q Q Q (λh=>absurd h (zQV _)) Q dD g8 Q Q (SA TK Q (TN (WN [2,3,5] Q Q (RS (SA TK Q (SA TK Q (SA TK Q (GE hm λg9 hm=>dM (f:=(D.int .i64)) p1.overSections TK Q Q dY Q Q Q Q Q (λh=>absurd h (zQV _)) Q dD g9 Q Q ?_))))))));refine SA TK Q (TN (WN [2,3,5] Q Q ?_));refine aH hm (λx10=>([(4,.d (.bool (x10)))]:Fr)) (λx10=>([]:List (Nat×Blk))) [4] [] Q (λz11 hm=>?_) (λx10 hm=>?_)
 ·refine TG (SA TK Q (SA TK Q (SX Q Q (aM TK Q Q Q) (SA TK Q (SB TK Q (λq12 hq12=>?_))))));cases q12
  ·replace hm:=JF hq12 hm;iterate 17 (refine SA TK Q ?_)
   refine TN (WT ?_);exact⟨_,[0,1,2],(SJ hm),Q,k0,Q⟩
  replace hm:=JT hq12 hm;refine SA TK Q (SA TK Q (BE hm λr13 hr13 hm=>SX Q Q (RN Q Q (SC (.d _) (SC (bO Q) SN)) (zY hr13)) (SA TK Q (SB TK Q (λq14 hq14=>?_)))));cases q14
  ·replace hm:=JB hq14 hm;iterate 12 (refine SA TK Q ?_)
   refine TN (WT ?_);exact⟨_,[0,1,2],(SJ hm),Q,k0,Q⟩
  replace hm:=JA hq14 hm;iterate 4 (refine SA TK Q ?_)
  refine SB TK Q (λq15 hq15=>?_);cases q15
  ·replace hm:=JF hq15 hm;iterate 7 (refine SA TK Q ?_)
   refine TN (WT ?_);exact⟨_,[0,1,2],(SJ hm),Q,k0,Q⟩
  replace hm:=JT hq15 hm;iterate 7 (refine SA TK Q ?_)
  refine TN (WT ?_);exact⟨_,[0,1,2],(SJ hm),Q,k0,Q⟩
 refine WN [4] Q Q (TR ?_);obtain rfl:=OJ hm;exact EndsS.one _ Q (.d _) (.refl _)
theorem qFU {p0:Table} {p1:Int} {r:Int} (hm:mZ p0 p1=some r):RetN Tryz.prog 115 [p0.enc,.int .i64 p1] (.int .i64 r):=by
 refine .unit (aG qZT Tryz.func115 Q Tryz.ntmps115 Q Q (λwX gX=>?_)) Q;unfold mZ at hm;refine WN [0,1] Q Q (RS (cM 0 Q Q Q (SA TK Q (TN (WN [1,2] Q Q ?_)))));refine bK hm (λ_=>([]:Fr)) (λ_=>([]:List (Nat×Blk))) [] [] Q (λz1 hm hz1=>?_) (λj hm=>?_)
 ·refine RS (SA TK Q (SA TK Q (SX Q Q (aM TK Q Q Q) (SA TK Q (TN (WN [1,8,9,10] Q Q (TB (aO hm (λx3=>([(10,.d (.int .i64 x3))]:Fr)) (λx3=>([]:List (Nat×Blk))) [10] [1,8,9] [0] Q k0 Q Q Q Q Q (λx3 z4 hm hz4=>WN [1,8,9,10] Q Q ?_)))))))));refine RS (SA TK Q (TN (WN [1,8,9,10,11] Q Q (TQ ?_))));refine TC _ Q (λh5=>?_) (λh5=>?_)
  ·replace hm:=JT h5 hm;refine TS (WT (WN [1,8,9,10] Q Q (TQ (TB (RS (SA TK Q (VE hm λe6 he6 hm=>SX Q Q (bF TK Q Q Q Q he6) ?_)))))));refine SA TK Q (SA TK Q (SA TK Q (TN (WN [1,5,6,8,9,10] Q Q (RS (SA TK Q (SA TK Q (SA TK Q (TN (WN [1,5,8,9,10,17] Q Q ?_))))))))));refine TC _ Q (λh7=>?_) (λh7=>?_)
   ·replace hm:=JT h7 hm;refine RS (SA TK Q (SA TK Q (TN (WN [4] Q Q (TR (WB (WR (IE hm λv8 hm hz=>?_))))))));rw [hz4 _ hz] at hm;refine WR (WB (IE hm λv9 hm hz=>?_));rw [hz1 _ hz] at hm;refine WR ?_;obtain rfl:=OJ hm;exact EndsS.one _ Q (.d _) (.refl _)
   replace hm:=JF h7 hm;refine TS (WK (WT (WN [1,8,9,10] Q Q (TG (GE hm λg10 hm=>SX Q Q (aU Q Q Q Q g10) (SA TK Q (TN ?_)))))));refine WT ?_;exact⟨_,[0],(SJ hm),Q,k0,Q⟩
  replace hm:=JF h5 hm;refine aE (WX (IE hm λv11 hm hz=>?_));rw [hz4 _ hz] at hm;refine WX (WH (WT ?_));exact⟨_,[0],(SJ hm),Q,k0,Q⟩
 refine WN [] Q Q (RS (SA TK Q (TN (WN [4] Q Q (TR ?_)))));obtain rfl:=OJ hm;exact EndsS.one _ Q (.d _) (.refl _)
theorem mF {p0:Table} {p1:(List Setting)} {r:Bool} (hm:fB p0 p1=some r):RetN Tryz.prog 79 [p0.enc,.sl 2 (p1.map Setting.enc)] (.bool (r)):=by
 refine .unit (aG zDL Tryz.func79 Q Tryz.ntmps79 Q Q (λwX gX=>?_)) Q;unfold fB at hm;refine WN [0,1] Q Q (RS (cM 0 Q Q Q (SA TK Q (TN (WN [1,2] Q Q ?_)))));refine bK hm (λ_=>([]:Fr)) (λ_=>([]:List (Nat×Blk))) [] [] Q (λz1 hm hz1=>?_) (λj hm=>?_)
 ·refine RS (SA TK Q (SX Q Q (aM TK Q Q Q) (SA TK Q (TN (WN [1,2,7,8,9] Q Q (TB (aO hm (λx3=>([(9,.d (.int .i64 x3))]:Fr)) (λx3=>([]:List (Nat×Blk))) [9] [1,2,7,8] [0] Q k0 Q Q Q Q Q (λx3 z4 hm hz4=>WN [1,2,7,8,9] Q Q ?_))))))));refine RS (SA TK Q (TN (WN [1,2,7,8,9,10] Q Q (TQ ?_))));refine TC _ Q (λh5=>?_) (λh5=>?_)
  ·replace hm:=JT h5 hm;refine TS (WT (WN [1,2,7,8,9] Q Q (TQ (TB (RS (SA TK Q (VE hm λe6 he6 hm=>SX Q Q (bF TK Q Q Q Q he6) ?_)))))));refine SA TK Q (cF 1 Q Q cS Q (SA TK Q (SA TK Q (TN (WN [1,2,5,6,7,8,9] Q Q ?_)))));refine aH hm (λx7=>([(43,.d (.bool (x7)))]:Fr)) (λx7=>([]:List (Nat×Blk))) [43] [1,2,7,8,9] Q (λz8 hm=>?_) (λx7 hm=>?_)
   ·refine bW follows  ?_;iterate 3 (refine DA [0,1] TK Q ?_)
    refine BE hm λr9 hr9 hm=>DX [0,1] Q Q (RN Q Q (SC (.d _) (SC (.d _) SN)) (qFU hr9)) (DA [0,1] TK Q (d_b [0,1] TK Q (λq10 hq10=>?_)));cases q10
    ·replace hm:=JF hq10 hm;iterate 4 (refine DA [0,1] TK Q ?_)
     refine d_b [0,1] TK Q (λq11 hq11=>?_);cases q11
     ·replace hm:=JF hq11 hm;iterate 4 (refine DA [0,1] TK Q ?_)
      refine d_b [0,1] TK Q (λq12 hq12=>?_);cases q12
      ·replace hm:=JF hq12 hm;iterate 2 (refine DA [0,1] TK Q ?_)
       refine d_b [0,1] TK Q (λq13 hq13=>?_);cases q13
       ·replace hm:=JF hq13 hm;iterate 11 (refine DA [0,1] TK Q ?_)
        refine DT ?_ (by kernel_rfl);refine TN (WT ?_);exact⟨_,[0,1],(SJ hm),Q,k0,Q⟩
       replace hm:=JT hq13 hm;iterate 2 (refine DA [0,1] TK Q ?_)
       refine GE hm λg14 hm=>DX [0,1] Q Q (aU Q Q Q Q g14) (VE hm λe15 he15 hm=>DX [0,1] Q Q (bF TK Q Q Q Q he15) ?_);iterate 7 (refine DA [0,1] TK Q ?_)
       refine DT ?_ (by kernel_rfl);refine TN (WT ?_);exact⟨_,[0,1],(SJ hm),Q,k0,Q⟩
      replace hm:=JT hq12 hm;iterate 14 (refine DA [0,1] TK Q ?_)
      refine DT ?_ (by kernel_rfl);refine TN (WT ?_);exact⟨_,[0,1],(SJ hm),Q,k0,Q⟩
     replace hm:=JT hq11 hm;iterate 19 (refine DA [0,1] TK Q ?_)
     refine DT ?_ (by kernel_rfl);refine TN (WT ?_);exact⟨_,[0,1],(SJ hm),Q,k0,Q⟩
    replace hm:=JT hq10 hm;iterate 24 (refine DA [0,1] TK Q ?_)
    refine DT ?_ (by kernel_rfl);refine TN (WT ?_);exact⟨_,[0,1],(SJ hm),Q,k0,Q⟩
   refine WN [1,2,7,8,9,43] Q Q ?_;refine TC _ Q (λh16=>?_) (λh16=>?_)
   ·replace hm:=JA h16 hm;refine RS (SA TK Q (TN (WN [4] Q Q (TR (WB (WR (IE hm λv17 hm hz=>?_)))))));rw [hz4 _ hz] at hm;refine WR (WB (IE hm λv18 hm hz=>?_));rw [hz1 _ hz] at hm;refine WR ?_;obtain rfl:=OJ hm;exact EndsS.one _ Q (.d _) (.refl _)
   replace hm:=JB h16 hm;refine TS (WK (WT (WN [1,2,7,8,9] Q Q (TG (GE hm λg19 hm=>SX Q Q (aU Q Q Q Q g19) (SA TK Q (TN ?_)))))));refine WT ?_;exact⟨_,[0],(SJ hm),Q,k0,Q⟩
  replace hm:=JF h5 hm;refine aE (WX (IE hm λv20 hm hz=>?_));rw [hz4 _ hz] at hm;refine WX (WH (WT ?_));exact⟨_,[0],(SJ hm),Q,k0,Q⟩
 refine WN [] Q Q (RS (SA TK Q (TN (WN [4] Q Q (TR ?_)))));obtain rfl:=OJ hm;exact EndsS.one _ Q (.d _) (.refl _)
theorem qI {p0:(List Setting)} {p1:(List Setting)} {r:Bool} (hm:gY p0 p1=some r):RetN Tryz.prog 80 [.sl 2 (p0.map Setting.enc),.sl 2 (p1.map Setting.enc)] (.bool (r)):=by
 refine .unit (aG zDK Tryz.func80 Q Tryz.ntmps80 Q Q (λwX gX=>?_)) Q;unfold gY at hm;refine WN [0,1] Q Q (RS (SA TK Q (TN (WN [0,1] Q Q ?_))));refine bK hm (λ_=>([]:Fr)) (λ_=>([]:List (Nat×Blk))) [] [] Q (λz1 hm hz1=>?_) (λj hm=>?_)
 ·refine RS (SA TK Q (SX Q Q (aM TK Q Q Q) (SA TK Q (TN (WN [1,9,10,11] Q Q (TB (aO hm (λx3=>([(11,.d (.int .i64 x3))]:Fr)) (λx3=>([]:List (Nat×Blk))) [11] [1,9,10] [] Q k0 Q Q Q Q Q (λx3 z4 hm hz4=>WN [1,9,10,11] Q Q ?_))))))));refine RS (SA TK Q (TN (WN [1,9,10,11,12] Q Q (TQ ?_))));refine TC _ Q (λh5=>?_) (λh5=>?_)
  ·replace hm:=JT h5 hm;refine TS (WT (WN [1,9,10,11] Q Q ?_));refine bK hm (λ_=>([]:Fr)) (λ_=>([]:List (Nat×Blk))) [] [1,9,10,11] Q (λz6 hm hz6=>?_) (λj hm=>?_)
   ·refine TB (RS (VE hm λe7 he7 hm=>SX Q Q (bF TK Q Q Q Q he7) (SA TK Q (cF 0 Q Q cS Q (SA TK Q (TN (WN [1,6,9,10,11] Q Q ?_)))))));refine RS (SA TK Q (SX Q Q (aM TK Q Q Q) (SA TK Q (TN (WN [1,6,9,10,11,15,16,17] Q Q (TB (aO hm (λx9=>([(17,.d (.int .i64 x9))]:Fr)) (λx9=>([]:List (Nat×Blk))) [17] [1,6,9,10,11,15,16] [0] Q k0 Q Q Q Q Q (λx9 z10 hm hz10=>WN [1,6,9,10,11,15,16,17] Q Q ?_))))))));refine RS (SA TK Q (TN (WN [1,6,9,10,11,15,16,17,18] Q Q (TQ ?_))));refine TC _ Q (λh11=>?_) (λh11=>?_)
    ·replace hm:=JT h11 hm;refine TS (WT (WN [1,6,9,10,11,15,16,17] Q Q (TQ (TB (RS (VE hm λe12 he12 hm=>SX Q Q (bF TK Q Q Q Q he12) (SA TK Q ?_)))))));refine cF 1 Q Q cS Q (SA TK Q (TN (WN [1,6,8,9,10,11,15,16,17] Q Q ?_)));refine fM [(32,.d (.bool (((decide (e7.el=e12.el))&&(!(decide (e7.pos=e12.pos)))))))] [32] [1,6,9,10,11,15,16,17] Q ?_ ?_
     ·refine TG ?_;iterate 5 (refine SA TK Q ?_)
      refine SB TK Q (λq13 hq13=>?_);cases q13
      ·iterate 6 (refine SA TK Q ?_)
       refine TN (WT ?_);exact⟨[0,1],Q,k0,bE (aK (aL (by first|(simp [hq13];done)|(simp only [hq13];simp))) Q) Q⟩
      iterate 6 (refine SA TK Q ?_)
      refine TN (WT ?_);exact⟨[0,1],Q,k0,bE (aK (aL (by first|(simp [hq13];done)|(simp only [hq13];simp))) Q) Q⟩
     refine WN [1,6,9,10,11,15,16,17,32] Q Q ?_;refine TC _ Q (λh14=>?_) (λh14=>?_)
     ·replace hm:=JA h14 hm;refine RS (SA TK Q (TN (WN [4] Q Q (TR (WB (WR (IE hm λv15 hm hz=>?_)))))));rw [hz10 _ hz] at hm;refine WR (WB (WB (IE hm λv16 hm hz=>?_)));rw [hz6 _ hz] at hm;refine WR (IE hm λv17 hm hz=>?_);rw [hz4 _ hz] at hm;refine WR (WB (IE hm λv18 hm hz=>?_));rw [hz1 _ hz] at hm;refine WR ?_;obtain rfl:=OJ hm;exact EndsS.one _ Q (.d _) (.refl _)
     replace hm:=JB h14 hm;refine TS (WK (WT (WN [1,6,9,10,11,15,16,17] Q Q (TG (GE hm λg19 hm=>SX Q Q (aU Q Q Q Q g19) (SA TK Q (TN ?_)))))));refine WT ?_;exact⟨_,[0],(SJ hm),Q,k0,Q⟩
    replace hm:=JF h11 hm;refine aE (WX (IE hm λv20 hm hz=>?_));rw [hz10 _ hz] at hm;refine WX (WH (WK (WT ?_)));exact⟨_,[],(SJ hm),Q,k0,Q⟩
   refine WN [1,9,10,11] Q Q (TG (GE hm λg21 hm=>SX Q Q (aU Q Q Q Q g21) (SA TK Q (TN (WT ?_)))));exact⟨_,[],(SJ hm),Q,k0,Q⟩
  replace hm:=JF h5 hm;refine aE (WX (IE hm λv22 hm hz=>?_));rw [hz4 _ hz] at hm;refine WX (WH (WT ?_));exact⟨_,[],(SJ hm),Q,k0,Q⟩
 refine WN [] Q Q (RS (SA TK Q (TN (WN [4] Q Q (TR ?_)))));obtain rfl:=OJ hm;exact EndsS.one _ Q (.d _) (.refl _)
theorem qIJ {p0:Table} {p1:ByteArray} {r:Int} (hm:mG p0 p1=some r):RetN Tryz.prog 81 [p0.enc,.str p1] (.int .i64 r):=by
 refine .unit (aG zDJ Tryz.func81 Q Tryz.ntmps81 Q Q (λwX gX=>?_)) Q;unfold mG at hm;refine WN [0,1] Q Q (RS (cM 0 Q Q Q (SA TK Q (TN (WN [1,2] Q Q ?_)))));refine bK hm (λ_=>([]:Fr)) (λ_=>([]:List (Nat×Blk))) [] [] Q (λz1 hm hz1=>?_) (λj hm=>?_)
 ·refine RS (SA TK Q (SA TK Q (SX Q Q (aM TK Q Q Q) (SA TK Q (TN (WN [1,8,9,10] Q Q (TB (aO hm (λx3=>([(10,.d (.int .i64 x3))]:Fr)) (λx3=>([]:List (Nat×Blk))) [10] [1,8,9] [0] Q k0 Q Q Q Q Q (λx3 z4 hm hz4=>WN [1,8,9,10] Q Q ?_)))))))));refine RS (SA TK Q (TN (WN [1,8,9,10,11] Q Q (TQ ?_))));refine TC _ Q (λh5=>?_) (λh5=>?_)
  ·replace hm:=JT h5 hm;refine TS (WT (WN [1,8,9,10] Q Q (TQ (TB (RS (SA TK Q (VE hm λe6 he6 hm=>SX Q Q (bF TK Q Q Q Q he6) ?_)))))));refine SA TK Q (cF 1 Q Q fL Q (cN 1 [none,none,none,some 3,some 2,some 1,none,none,some 3,some 2,some 1,some 2,some 1,some 2] Q Q (SA TK Q (SA TK Q (TN (WN [1,5,6,8,9,10] Q Q (RS ?_)))))));iterate 4 (refine SA TK Q ?_)
   refine TN (WN [1,5,8,9,10,18] Q Q ?_);refine TC _ Q (λh7=>?_) (λh7=>?_)
   ·replace hm:=JT h7 hm;refine RS (SA TK Q (SA TK Q (TN (WN [4] Q Q (TR (WB (WR (IE hm λv8 hm hz=>?_))))))));rw [hz4 _ hz] at hm;refine WR (WB (IE hm λv9 hm hz=>?_));rw [hz1 _ hz] at hm;refine WR ?_;obtain rfl:=OJ hm;exact EndsS.one _ Q (.d _) (.refl _)
   replace hm:=JF h7 hm;refine TS (WK (WT (WN [1,8,9,10] Q Q (TG (GE hm λg10 hm=>SX Q Q (aU Q Q Q Q g10) (SA TK Q (TN ?_)))))));refine WT ?_;exact⟨_,[0],(SJ hm),Q,k0,Q⟩
  replace hm:=JF h5 hm;refine aE (WX (IE hm λv11 hm hz=>?_));rw [hz4 _ hz] at hm;refine WX (WH (WT ?_));exact⟨_,[0],(SJ hm),Q,k0,Q⟩
 refine WN [] Q Q (RS (SA TK Q (TN (WN [4] Q Q (TR ?_)))));obtain rfl:=OJ hm;exact EndsS.one _ Q (.d _) (.refl _)
theorem qFV {p0:Table} {r:Int} (hm:nA p0=some r):RetN Tryz.prog 31 [p0.enc] (.int .i64 r):=by
 refine .unit (aG zEL Tryz.func31 Q Tryz.ntmps31 Q Q (λwX gX=>?_)) Q;unfold nA at hm;refine WN [0] Q Q (RS (cM 0 Q Q Q (SA TK Q (TN (WN [1] Q Q (TQ ?_))))));refine fM [(40,.d (.bool (((decide ((48:Int) < (p0.routes.length:Int)))||((decide ((32:Int) < (p0.points.length:Int)))||((decide (p0.sections < (0:Int)))||((decide ((24:Int) < p0.sections))||((decide (p0.signals < (0:Int)))||(decide ((20:Int) < p0.signals))))))))))] [40] [1] Q ?_ ?_
 ·refine TG (SA TK Q (SA TK Q (SX Q Q (aM TK Q Q Q) (SA TK Q (SB TK Q (λq1 hq1=>?_))))));cases q1
  ·refine SA TK Q (SA TK Q (SX Q Q (aM TK Q Q Q) (SA TK Q (SA TK Q (SB TK Q (λq2 hq2=>?_))))));cases q2
   ·iterate 4 (refine SA TK Q ?_)
    refine SB TK Q (λq3 hq3=>?_);cases q3
    ·iterate 4 (refine SA TK Q ?_)
     refine SB TK Q (λq4 hq4=>?_);cases q4
     ·iterate 4 (refine SA TK Q ?_)
      refine SB TK Q (λq5 hq5=>?_);cases q5
      ·iterate 4 (refine SA TK Q ?_)
       refine TN (WT ?_);exact⟨[0],Q,k0,bE (aK (aL (by first|(simp [hq1,hq2,hq3,hq4,hq5];done)|(simp only [hq1,hq2,hq3,hq4,hq5];simp))) Q) Q⟩
      iterate 4 (refine SA TK Q ?_)
      refine TN (WT ?_);exact⟨[0],Q,k0,bE (aK (aL (by first|(simp [hq1,hq2,hq3,hq4,hq5];done)|(simp only [hq1,hq2,hq3,hq4,hq5];simp))) Q) Q⟩
     iterate 9 (refine SA TK Q ?_)
     refine TN (WT ?_);exact⟨[0],Q,k0,bE (aK (aL (by first|(simp [hq1,hq2,hq3,hq4];done)|(simp only [hq1,hq2,hq3,hq4];simp))) Q) Q⟩
    iterate 14 (refine SA TK Q ?_)
    refine TN (WT ?_);exact⟨[0],Q,k0,bE (aK (aL (by first|(simp [hq1,hq2,hq3];done)|(simp only [hq1,hq2,hq3];simp))) Q) Q⟩
   iterate 19 (refine SA TK Q ?_)
   refine TN (WT ?_);exact⟨[0],Q,k0,bE (aK (aL (by first|(simp [hq1,hq2];done)|(simp only [hq1,hq2];simp))) Q) Q⟩
  iterate 25 (refine SA TK Q ?_)
  refine TN (WT ?_);exact⟨[0],Q,k0,bE (aK (aL (by first|(simp [hq1];done)|(simp only [hq1];simp))) Q) Q⟩
 refine WN [1,40] Q Q ?_;refine TC _ Q (λh6=>?_) (λh6=>?_)
 ·replace hm:=JA h6 hm;refine RS (SA TK Q (TN (WN [2] Q Q (TR (WR ?_)))));obtain rfl:=OJ hm;exact EndsS.one _ Q (.d _) (.refl _)
 replace hm:=JB h6 hm;refine TS (WT (WN [1] Q Q (TQ (RS (SA TK Q (SA TK Q (SX Q Q (aM TK Q Q Q) (SA TK Q (SA TK Q (SX Q Q (aM TK Q Q Q) ?_))))))))));refine SA TK Q (TN (WN [1,47] Q Q ?_));refine TC _ Q (λh7=>?_) (λh7=>?_)
 ·replace hm:=gO h7 hm;refine RS (SA TK Q (TN (WN [2] Q Q (TR (WR ?_)))));obtain rfl:=OJ hm;exact EndsS.one _ Q (.d _) (.refl _)
 replace hm:=gP h7 hm;refine TS (WT (WN [1] Q Q ?_));refine bK hm (λ_=>([]:Fr)) (λ_=>([]:List (Nat×Blk))) [] [1] Q (λz8 hm hz8=>?_) (λj hm=>?_)
 ·refine RS (SA TK Q (SA TK Q (SX Q Q (aM TK Q Q Q) (SA TK Q (TN (WN [1,49,50,51] Q Q (TB (aO hm (λx10=>([(51,.d (.int .i64 x10))]:Fr)) (λx10=>([]:List (Nat×Blk))) [51] [1,49,50] [0] Q k0 Q Q Q Q Q (λx10 z11 hm hz11=>WN [1,49,50,51] Q Q ?_)))))))));refine RS (SA TK Q (TN (WN [1,49,50,51,52] Q Q (TQ ?_))));refine TC _ Q (λh12=>?_) (λh12=>?_)
  ·replace hm:=JT h12 hm;refine TS (WT (WN [1,49,50,51] Q Q (TQ (TB (RS (SA TK Q (VE hm λe13 he13 hm=>SX Q Q (bF TK Q Q Q Q he13) ?_)))))));refine SA TK Q (SA TK Q (SA TK Q (TN (WN [1,3,4,49,50,51] Q Q ?_))));refine aH hm (λx14=>([(89,.d (.bool (x14)))]:Fr)) (λx14=>([]:List (Nat×Blk))) [89] [1,49,50,51] Q (λz15 hm=>?_) (λx14 hm=>?_)
   ·refine bW follows  ?_;iterate 2 (refine DA [0] TK Q ?_)
    refine d_b [0] TK Q (λq16 hq16=>?_);cases q16
    ·replace hm:=JF hq16 hm;iterate 2 (refine DA [0] TK Q ?_)
     refine d_b [0] TK Q (λq17 hq17=>?_);cases q17
     ·replace hm:=JF hq17 hm;iterate 14 (refine DA [0] TK Q ?_)
      refine VE hm λe18 he18 hm=>DX [0] Q Q (bF TK Q Q Q Q he18) ?_;iterate 3 (refine DA [0] TK Q ?_)
      refine d_b [0] TK Q (λq19 hq19=>?_);cases q19
      ·replace hm:=JF hq19 hm;iterate 3 (refine DA [0] TK Q ?_)
       refine VE hm λe20 he20 hm=>DX [0] Q Q (bF TK Q Q Q Q he20) ?_;iterate 5 (refine DA [0] TK Q ?_)
       refine DT ?_ (by kernel_rfl);refine TN (WT ?_);exact⟨_,[0],(SJ hm),Q,k0,Q⟩
      replace hm:=JT hq19 hm;iterate 9 (refine DA [0] TK Q ?_)
      refine DT ?_ (by kernel_rfl);refine TN (WT ?_);exact⟨_,[0],(SJ hm),Q,k0,Q⟩
     replace hm:=JT hq17 hm;iterate 3 (refine DA [0] TK Q ?_)
     refine GE hm λg21 hm=>DX [0] Q Q (aU Q Q Q Q g21) (VE hm λe22 he22 hm=>DX [0] Q Q (bF TK Q Q Q Q he22) ?_);iterate 5 (refine DA [0] TK Q ?_)
     refine d_b [0] TK Q (λq23 hq23=>?_);cases q23
     ·replace hm:=JF hq23 hm;iterate 3 (refine DA [0] TK Q ?_)
      refine VE hm λe24 he24 hm=>DX [0] Q Q (bF TK Q Q Q Q he24) ?_;iterate 3 (refine DA [0] TK Q ?_)
      refine d_b [0] TK Q (λq25 hq25=>?_);cases q25
      ·replace hm:=JF hq25 hm;iterate 3 (refine DA [0] TK Q ?_)
       refine VE hm λe26 he26 hm=>DX [0] Q Q (bF TK Q Q Q Q he26) ?_;iterate 5 (refine DA [0] TK Q ?_)
       refine DT ?_ (by kernel_rfl);refine TN (WT ?_);exact⟨_,[0],(SJ hm),Q,k0,Q⟩
      replace hm:=JT hq25 hm;iterate 9 (refine DA [0] TK Q ?_)
      refine DT ?_ (by kernel_rfl);refine TN (WT ?_);exact⟨_,[0],(SJ hm),Q,k0,Q⟩
     replace hm:=JT hq23 hm;iterate 17 (refine DA [0] TK Q ?_)
     refine DT ?_ (by kernel_rfl);refine TN (WT ?_);exact⟨_,[0],(SJ hm),Q,k0,Q⟩
    replace hm:=JT hq16 hm;iterate 31 (refine DA [0] TK Q ?_)
    refine DT ?_ (by kernel_rfl);refine TN (WT ?_);exact⟨_,[0],(SJ hm),Q,k0,Q⟩
   refine WN [1,49,50,51,89] Q Q ?_;refine TC _ Q (λh27=>?_) (λh27=>?_)
   ·replace hm:=JA h27 hm;refine RS (SA TK Q (TN (WN [2] Q Q (TR (WB (WR (IE hm λv28 hm hz=>?_)))))));rw [hz11 _ hz] at hm;refine WR (WB (IE hm λv29 hm hz=>?_));rw [hz8 _ hz] at hm;refine WR ?_;obtain rfl:=OJ hm;exact EndsS.one _ Q (.d _) (.refl _)
   replace hm:=JB h27 hm;refine TS (WK (WT (WN [1,49,50,51] Q Q (TG (GE hm λg30 hm=>SX Q Q (aU Q Q Q Q g30) (SA TK Q (TN ?_)))))));refine WT ?_;exact⟨_,[0],(SJ hm),Q,k0,Q⟩
  replace hm:=JF h12 hm;refine aE (WX (IE hm λv31 hm hz=>?_));rw [hz11 _ hz] at hm;refine WX (WH (WT ?_));exact⟨_,[0],(SJ hm),Q,k0,Q⟩
 refine WN [1] Q Q ?_;refine bK hm (λ_=>([]:Fr)) (λ_=>([]:List (Nat×Blk))) [] [1] Q (λz32 hm hz32=>?_) (λj hm=>?_)
 ·refine RS (SA TK Q (SA TK Q (SX Q Q (aM TK Q Q Q) (SA TK Q (TN (WN [1,92,93,94] Q Q (TB (aO hm (λx34=>([(94,.d (.int .i64 x34))]:Fr)) (λx34=>([]:List (Nat×Blk))) [94] [1,92,93] [0] Q k0 Q Q Q Q Q (λx34 z35 hm hz35=>WN [1,92,93,94] Q Q ?_)))))))));refine RS (SA TK Q (TN (WN [1,92,93,94,95] Q Q (TQ ?_))));refine TC _ Q (λh36=>?_) (λh36=>?_)
  ·replace hm:=JT h36 hm;refine TS (WT (WN [1,92,93,94] Q Q (TQ (TB (RS (VE hm λe37 he37 hm=>SX Q Q (bF TK Q Q Q Q he37) (SA TK Q ?_)))))));refine cF 1 Q Q fL Q (cN 1 [none,none,none,some 3,some 2,some 1,none,none,some 3,some 2,some 1,some 2,some 1,some 2] Q Q (SA TK Q (TN (WN [1,6,92,93,94] Q Q ?_))));refine aH hm (λx38=>([(122,.d (.bool (x38)))]:Fr)) (λx38=>([]:List (Nat×Blk))) [122] [1,92,93,94] Q (λz39 hm=>?_) (λx38 hm=>?_)
   ·refine TG (SA TK Q (SA TK Q (BE hm λr40 hr40 hm=>SX Q Q (RN Q Q (SC (.d _) (SC (.d _) SN)) (qFT hr40)) (SA TK Q (SB TK Q (λq41 hq41=>?_))))));cases q41
    ·replace hm:=JB hq41 hm;refine SA TK Q (SA TK Q (SA TK Q (BE hm λr42 hr42 hm=>SX Q Q (RN Q Q (SC (.d _) (SC (.d _) SN)) (mF hr42)) (SA TK Q (SA TK Q (SB TK Q (λq43 hq43=>?_)))))));cases q43
     ·replace hm:=JB hq43 hm;refine SA TK Q (SA TK Q (SA TK Q (BE hm λr44 hr44 hm=>SX Q Q (RN Q Q (SC (.d _) (SC (.d _) SN)) (mF hr44)) (SA TK Q (SA TK Q (SB TK Q (λq45 hq45=>?_)))))));cases q45
      ·replace hm:=JB hq45 hm;refine SA TK Q (SA TK Q (SA TK Q (BE hm λr46 hr46 hm=>SX Q Q (RN Q Q (SC (.d _) (SC (.d _) SN)) (mF hr46)) (SA TK Q (SA TK Q (TN (WT ?_)))))));exact⟨_,[0,1],(SJ hm),Q,k0,Q⟩
      replace hm:=JA hq45 hm;iterate 6 (refine SA TK Q ?_)
      refine TN (WT ?_);exact⟨_,[0,1],(SJ hm),Q,k0,Q⟩
     replace hm:=JA hq43 hm;iterate 13 (refine SA TK Q ?_)
     refine TN (WT ?_);exact⟨_,[0,1],(SJ hm),Q,k0,Q⟩
    replace hm:=JA hq41 hm;iterate 20 (refine SA TK Q ?_)
    refine TN (WT ?_);exact⟨_,[0,1],(SJ hm),Q,k0,Q⟩
   refine WN [1,92,93,94,122] Q Q ?_;refine TC _ Q (λh47=>?_) (λh47=>?_)
   ·replace hm:=JA h47 hm;refine RS (SA TK Q (TN (WN [2] Q Q (TR (WB (WR (IE hm λv48 hm hz=>?_)))))));rw [hz35 _ hz] at hm;refine WR (WB (IE hm λv49 hm hz=>?_));rw [hz32 _ hz] at hm;refine WR ?_;obtain rfl:=OJ hm;exact EndsS.one _ Q (.d _) (.refl _)
   replace hm:=JB h47 hm;refine TS (WK (WT (WN [1,92,93,94] Q Q (TG (GE hm λg50 hm=>SX Q Q (aU Q Q Q Q g50) (SA TK Q (TN ?_)))))));refine WT ?_;exact⟨_,[0],(SJ hm),Q,k0,Q⟩
  replace hm:=JF h36 hm;refine aE (WX (IE hm λv51 hm hz=>?_));rw [hz35 _ hz] at hm;refine WX (WH (WT ?_));exact⟨_,[0],(SJ hm),Q,k0,Q⟩
 refine WN [1] Q Q ?_;refine bK hm (λ_=>([]:Fr)) (λ_=>([]:List (Nat×Blk))) [] [1] Q (λz52 hm hz52=>?_) (λj hm=>?_)
 ·refine RS (SA TK Q (SA TK Q (SX Q Q (aM TK Q Q Q) (SA TK Q (TN (WN [1,125,126,127] Q Q (TB (aO hm (λx54=>([(127,.d (.int .i64 x54))]:Fr)) (λx54=>([]:List (Nat×Blk))) [127] [1,125,126] [0] Q k0 Q Q Q Q Q (λx54 z55 hm hz55=>WN [1,125,126,127] Q Q ?_)))))))));refine RS (SA TK Q (TN (WN [1,125,126,127,128] Q Q (TQ ?_))));refine TC _ Q (λh56=>?_) (λh56=>?_)
  ·replace hm:=JT h56 hm;refine TS (WT (WN [1,125,126,127] Q Q (TQ (TB (RS (VE hm λe57 he57 hm=>SX Q Q (bF TK Q Q Q Q he57) (SA TK Q ?_)))))));refine cF 1 Q Q fL Q (cN 1 [none,none,none,some 3,some 2,some 1,none,none,some 3,some 2,some 1,some 2,some 1,some 2] Q Q (SA TK Q (TN (WN [1,8,125,126,127] Q Q ?_))));refine aH hm (λx58=>([(152,.d (.bool (x58)))]:Fr)) (λx58=>([]:List (Nat×Blk))) [152] [1,125,126,127] Q (λz59 hm=>?_) (λx58 hm=>?_)
   ·refine TG ?_;iterate 4 (refine SA TK Q ?_)
    refine BE hm λr60 hr60 hm=>SX Q Q (RN Q Q (SC (.d _) (SC (.d _) SN)) (qI hr60)) (SA TK Q (SB TK Q (λq61 hq61=>?_)));cases q61
    ·replace hm:=JB hq61 hm;iterate 4 (refine SA TK Q ?_)
     refine BE hm λr62 hr62 hm=>SX Q Q (RN Q Q (SC (.d _) (SC (.d _) SN)) (qI hr62)) (SA TK Q (SA TK Q (SB TK Q (λq63 hq63=>?_))));cases q63
     ·replace hm:=JB hq63 hm;iterate 4 (refine SA TK Q ?_)
      refine BE hm λr64 hr64 hm=>SX Q Q (RN Q Q (SC (.d _) (SC (.d _) SN)) (qI hr64)) (SA TK Q (SA TK Q (TN (WT ?_))));exact⟨_,[0,1],(SJ hm),Q,k0,Q⟩
     replace hm:=JA hq63 hm;iterate 7 (refine SA TK Q ?_)
     refine TN (WT ?_);exact⟨_,[0,1],(SJ hm),Q,k0,Q⟩
    replace hm:=JA hq61 hm;iterate 15 (refine SA TK Q ?_)
    refine TN (WT ?_);exact⟨_,[0,1],(SJ hm),Q,k0,Q⟩
   refine WN [1,125,126,127,152] Q Q ?_;refine TC _ Q (λh65=>?_) (λh65=>?_)
   ·replace hm:=JA h65 hm;refine RS (SA TK Q (TN (WN [2] Q Q (TR (WB (WR (IE hm λv66 hm hz=>?_)))))));rw [hz55 _ hz] at hm;refine WR (WB (IE hm λv67 hm hz=>?_));rw [hz52 _ hz] at hm;refine WR ?_;obtain rfl:=OJ hm;exact EndsS.one _ Q (.d _) (.refl _)
   replace hm:=JB h65 hm;refine TS (WK (WT (WN [1,125,126,127] Q Q (TG (GE hm λg68 hm=>SX Q Q (aU Q Q Q Q g68) (SA TK Q (TN ?_)))))));refine WT ?_;exact⟨_,[0],(SJ hm),Q,k0,Q⟩
  replace hm:=JF h56 hm;refine aE (WX (IE hm λv69 hm hz=>?_));rw [hz55 _ hz] at hm;refine WX (WH (WT ?_));exact⟨_,[0],(SJ hm),Q,k0,Q⟩
 refine WN [1] Q Q ?_;refine bK hm (λ_=>([]:Fr)) (λ_=>([]:List (Nat×Blk))) [] [] Q (λz70 hm hz70=>?_) (λj hm=>?_)
 ·refine RS (SA TK Q (SA TK Q (SX Q Q (aM TK Q Q Q) (SA TK Q (TN (WN [1,155,156,157] Q Q (TB (aO hm (λx72=>([(157,.d (.int .i64 x72))]:Fr)) (λx72=>([]:List (Nat×Blk))) [157] [1,155,156] [0] Q k0 Q Q Q Q Q (λx72 z73 hm hz73=>WN [1,155,156,157] Q Q ?_)))))))));refine RS (SA TK Q (TN (WN [1,155,156,157,158] Q Q (TQ ?_))));refine TC _ Q (λh74=>?_) (λh74=>?_)
  ·replace hm:=JT h74 hm;refine TS (WT (WN [1,155,156,157] Q Q (TQ (TB (RS (SA TK Q (VE hm λe75 he75 hm=>SX Q Q (bF TK Q Q Q Q he75) ?_)))))));refine SA TK Q (cF 1 Q Q fL Q (cN 1 [none,none,none,some 3,some 2,some 1,none,none,some 3,some 2,some 1,some 2,some 1,some 2] Q Q (SA TK Q (SA TK Q (TN (WN [1,9,10,155,156,157] Q Q (RS (SA TK Q (SA TK Q (SA TK Q (BE hm λr76 hr76 hm=>?_)))))))))));refine SX Q Q (RN Q Q (SC (.d _) (SC (.d _) SN)) (qIJ hr76)) (SA TK Q (SA TK Q (TN (WN [1,155,156,157,167] Q Q ?_))));refine TC _ Q (λh77=>?_) (λh77=>?_)
   ·replace hm:=gO h77 hm;refine RS (SA TK Q (TN (WN [2] Q Q (TR (WB (WR (IE hm λv78 hm hz=>?_)))))));rw [hz73 _ hz] at hm;refine WR (WB (IE hm λv79 hm hz=>?_));rw [hz70 _ hz] at hm;refine WR ?_;obtain rfl:=OJ hm;exact EndsS.one _ Q (.d _) (.refl _)
   replace hm:=gP h77 hm;refine TS (WK (WT (WN [1,155,156,157] Q Q (TG (GE hm λg80 hm=>SX Q Q (aU Q Q Q Q g80) (SA TK Q (TN ?_)))))));refine WT ?_;exact⟨_,[0],(SJ hm),Q,k0,Q⟩
  replace hm:=JF h74 hm;refine aE (WX (IE hm λv81 hm hz=>?_));rw [hz73 _ hz] at hm;refine WX (WH (WT ?_));exact⟨_,[0],(SJ hm),Q,k0,Q⟩
 refine WN [] Q Q (RS (SA TK Q (TN (WN [2] Q Q (TR ?_)))));obtain rfl:=OJ hm;exact EndsS.one _ Q (.d _) (.refl _)
theorem zX {p0:Table} {r:Places} (hm:jS p0=some r):RetD Tryz.prog 13 [p0.enc] (r.enc):=by
 refine .of (mv:=λ_=>false) (aG zEQ Tryz.func13 Q Tryz.ntmps13 Q Q (λwX gX=>?_));unfold jS at hm;refine WN [0] Q Q (RS (cM 0 Q Q Q (cF 1 Q Q qHV Q (eB (f:=(D.int .i64)) 1 5 2 3 1 Q Q Q (TN (WN [1,2] Q Q (RS (SA TK Q (SA TK Q ?_)))))))));refine GE hm λg1 hm=>SX Q Q (aU Q Q Q Q g1) (SX Q Q (gK Q plc34 qHV Q Q Q Q) (cF 3 Q Q qHV Q (eB (f:=(D.int .i64)) 3 5 4 3 1 Q Q Q (SA TK Q (eB (f:=(D.int .i64)) 3 5 5 3 1 Q Q Q (TN (WN [1,2,3] Q Q ?_)))))));refine RS ?_;iterate 4 (refine SA TK Q ?_)
 refine SX Q Q (aM TK Q Q Q) (GE hm λg2 hm=>SX Q Q (aU Q Q Q Q g2) (GE hm λg3 hm=>SX Q Q (aU Q Q Q Q g3) (SA TK Q (SA TK Q (TN (WN [1,2,3] Q Q (RS ?_)))))));iterate 4 (refine SA TK Q ?_)
 refine SX Q Q (aM TK Q Q Q) (GE hm λg4 hm=>SX Q Q (aU Q Q Q Q g4) (GE hm λg5 hm=>SX Q Q (aU Q Q Q Q g5) (SA TK Q (SA TK Q (TN (WN [1,2,3] Q Q (RS ?_)))))));iterate 4 (refine SA TK Q ?_)
 refine SX Q Q (aM TK Q Q Q) (GE hm λg6 hm=>SX Q Q (aU Q Q Q Q g6) (SA TK Q (TN (WN [1,2,3,4] Q Q ?_))));refine aH hm (λ(at7,b8)=>([(4,.d (.int .i64 at7))]:Fr)) (λ(at7,b8)=>([(3,.box 34 [.d (.int .i64 ((2:Int) * p0.sections)),.d (.int .i64 (((2:Int) * p0.sections)+((2:Int) * (p0.points.length:Int)))),.d (.int .i64 ((((2:Int) * p0.sections)+((2:Int) * (p0.points.length:Int)))+((4:Int) * (p0.routes.length:Int)))),.d (.int .i64 (0:Int)),.d (.int .i64 (0:Int)),.msl 5 1 0 b8.length]),(5,.flat 3 1 (b8.map (D.int .i64)))]:List (Nat×Blk))) [4] [1,2,3] Q (λz9 hm=>?_) (λj hm=>?_)
 ·refine RS (SA TK Q (TN (WN [1,2,3,4,5] Q Q (TB (aO hm (λ(at15,i16,b17)=>([(4,.d (.int .i64 at15)),(5,.d (.int .i64 i16))]:Fr)) (λ(at15,i16,b17)=>([(3,.box 34 [.d (.int .i64 ((2:Int) * p0.sections)),.d (.int .i64 (((2:Int) * p0.sections)+((2:Int) * (p0.points.length:Int)))),.d (.int .i64 ((((2:Int) * p0.sections)+((2:Int) * (p0.points.length:Int)))+((4:Int) * (p0.routes.length:Int)))),.d (.int .i64 (0:Int)),.d (.int .i64 (0:Int)),.msl 5 1 0 b17.length]),(5,.flat 3 1 (b17.map (D.int .i64)))]:List (Nat×Blk))) [4,5] [1,2,3] [0,1,2,3,4,5] Q k0 Q Q Q Q Q (λs z18 hm hz18=>?_))))));obtain⟨at15,i16,b17⟩:=s;refine WN [1,2,3,4,5] Q Q (TQ (RS (SA TK Q (SA TK Q (SA TK Q (SX Q Q (aM TK Q Q Q) (SA TK Q (TN (WN [1,2,3,4,5,36] Q Q ?_)))))))));refine TC _ Q (λh19=>?_) (λh19=>?_)
  ·replace hm:=JT h19 hm;refine TS (WT (WN [1,2,3,4,5] Q Q (TQ (TB (RS (SA TK Q (SA TK Q (SA TK Q (SX Q Q (cX [.tmp 41] TK Q Q dY Q Q Q Q Q) (GE hm λg20 hm=>?_))))))))));refine dM (f:=(D.int .i64)) ([at15]:List Int) TK Q Q dY Q Q Q Q Q (λh=>absurd h (zQV _)) Q dD g20 Q Q (SA TK Q (SA TK Q (TN (WN [1,2,3,4,5] Q Q (TG (SA TK Q (GE hm λg21 hm=>SX Q Q (aU Q Q Q Q g21) (SA TK Q (SA TK Q (SA TK Q ?_))))))))));refine VE hm λe22 he22 hm=>SX Q Q (bF TK Q Q Q Q he22) (SA TK Q (SA TK Q (SX Q Q (aM TK Q Q Q) (GE hm λg23 hm=>SX Q Q (aU Q Q Q Q g23) (SX Q Q (qUL Q Q Q Q) (GE hm λg24 hm=>SX Q Q (aU Q Q Q Q g24) ?_))))));refine SA TK Q (TN (WK (WT (WN [1,2,3,4,5] Q Q (TG (SA TK Q (GE hm λg25 hm=>SX Q Q (aU Q Q Q Q g25) ?_)))))));refine SA TK Q (TN (WT ?_));exact⟨_,[0,1,2,3,4,5],(SJ hm),Q,k0,Q⟩
  replace hm:=JF h19 hm;refine aE (WX (IE hm λv26 hm hz=>?_));rw [hz18 _ hz] at hm;refine WX (WH (WT ?_));exact⟨_,[0,1,2,3,4,5],(SJ hm),Q,k0,Q⟩
 obtain⟨at7,b8⟩:=j;refine WN [1,2,3,4] Q Q (RS (SA TK Q (SA TK Q (SA TK Q (TN (WN [1,2,3,4] Q Q (RS (SA TK Q (SA TK Q (SA TK Q (SX Q Q (aM TK Q Q Q) (GE hm λg27 hm=>?_))))))))))));refine SX Q Q (aU Q Q Q Q g27) (GE hm λg28 hm=>SX Q Q (aU Q Q Q Q g28) (SA TK Q (SA TK Q (TN (WN [2,3] Q Q (RS (SA TK Q (SA TK Q (TN ?_)))))))));refine WN [2] Q Q (TR ?_);obtain rfl:=OJ hm;exact EndsS.cellR _ TK Q Q Q Q Q (fG (.cons (.d _) Q (.cons (.d _) Q (.cons (.d _) Q (.cons (.d _) Q (.cons (.d _) Q (.cons (bO Q) Q .nil)))))))
theorem wD {p0:Table} {r:Bool} (hm:jO p0=some r):Ret Tryz.prog 8 [] (λ_=>false) ([p0.enc].map .d) (.d (.bool (r))) []:=by
 refine aG callB8 Tryz.func8 Q Tryz.ntmps8 Q Q (λwX gX=>?_);unfold jO at hm;refine WN [0] Q Q (RS (cM 0 Q Q Q (SA TK Q (TN (WN [1] Q Q (TQ ?_))))));refine aH hm (λx1=>([(22,.d (.bool (x1)))]:Fr)) (λx1=>([]:List (Nat×Blk))) [22] [1] Q (λz2 hm=>?_) (λx1 hm=>?_)
 ·refine TG (SA TK Q (BE hm λr3 hr3 hm=>SX Q Q (RN Q Q (SC (.d _) SN) (qGN hr3)) (SA TK Q (SB TK Q (λq4 hq4=>?_)))));cases q4
  ·replace hm:=JB hq4 hm;refine SA TK Q (BE hm λr5 hr5 hm=>SX Q Q (RN Q Q (SC (.d _) SN) (qFV hr5)) (SA TK Q (SA TK Q (TN (WT ?_)))));exact⟨_,[0],(SJ hm),Q,k0,Q⟩
  replace hm:=JA hq4 hm;iterate 4 (refine SA TK Q ?_)
  refine TN (WT ?_);exact⟨_,[0],(SJ hm),Q,k0,Q⟩
 refine WN [1,22] Q Q ?_;refine TC _ Q (λh6=>?_) (λh6=>?_)
 ·replace hm:=JA h6 hm;refine RS (BE hm λr7 hr7 hm=>SX Q Q (RN Q Q SN (qW hr7)) (SA TK Q (TN (WN [2] Q Q (TR (WR ?_))))));obtain rfl:=OJ hm;exact EndsS.one _ Q (.d _) (.refl _)
 replace hm:=JB h6 hm;refine TS (WT (WN [1] Q Q (RS (SA TK Q (BE hm λr8 hr8 hm=>?_)))));obtain⟨r9,r10⟩:=r8;refine SX Q Q (eS Q Q Q (yR hr8)) ?_;iterate 5 (refine SA TK Q ?_)
 refine TN (WN [1,3,4] Q Q (TQ (RS (SA TK Q (SA TK Q (TN (WN [1,3,4,30] Q Q ?_)))))));refine TC _ Q (λh11=>?_) (λh11=>?_)
 ·replace hm:=gO h11 hm;refine aH hm (λx12=>([(2,.d (.bool (x12)))]:Fr)) (λx12=>([]:List (Nat×Blk))) [2] [] Q (λz13 hm=>?_) (λx12 hm=>?_)
  ·refine TG (SA TK Q (SA TK Q (SB TK Q (λq14 hq14=>?_))));cases q14
   ·replace hm:=JF hq14 hm;refine SA TK Q (SA TK Q (SA TK Q (TN (WT ?_))));exact⟨_,[0],(SJ hm),Q,k0,Q⟩
   replace hm:=JT hq14 hm;refine BE hm λr15 hr15 hm=>SX Q Q (RN Q Q SN (qW hr15)) (SA TK Q (SA TK Q (TN (WT ?_))));exact⟨_,[0],(SJ hm),Q,k0,Q⟩
  refine WN [2] Q Q (TR (WR ?_));obtain rfl:=OJ hm;exact EndsS.one _ Q (.d _) (.refl _)
 replace hm:=gP h11 hm;refine TS (WT (WN [1,3] Q Q (RS (SA TK Q (BE hm λr16 hr16 hm=>SX Q Q (RD Q Q Q (zX hr16)) (cF 1 Q Q qHV Q (cN 1 [none,none,none,none,none,some 1] Q Q ?_)))))));refine SA TK Q (TN (WN [1,3,5] Q Q ?_));refine bK hm (λ_=>([]:Fr)) (λ_=>([]:List (Nat×Blk))) [] [] Q (λz17 hm hz17=>?_) (λj hm=>?_)
 ·refine RS (SA TK Q (SA TK Q (SX Q Q (aM TK Q Q Q) (SA TK Q (TN (WN [1,3,5,39,40,41] Q Q (TB (aO hm (λx19=>([(41,.d (.int .i64 x19))]:Fr)) (λx19=>([]:List (Nat×Blk))) [41] [1,3,5,39,40] [0,1] Q k0 Q Q Q Q Q (λx19 z20 hm hz20=>WN [1,3,5,39,40,41] Q Q ?_)))))))));refine RS (SA TK Q (TN (WN [1,3,5,39,40,41,42] Q Q (TQ ?_))));refine TC _ Q (λh21=>?_) (λh21=>?_)
  ·replace hm:=JT h21 hm;refine TS (WT (WN [1,3,5,39,40,41] Q Q ?_));refine bK hm (λ_=>([]:Fr)) (λ_=>([]:List (Nat×Blk))) [] [1,3,5,39,40,41] Q (λz22 hm hz22=>?_) (λj hm=>?_)
   ·refine TB (RS (SA TK Q (VE hm λe23 he23 hm=>SX Q Q (bF TK Q Q Q Q he23) (SA TK Q (cF 2 Q Q fL Q (cN 2 [none,none,none,some 3,some 2,some 1,none,none,some 3,some 2,some 1,some 2,some 1,some 2] Q Q (SA TK Q (SA TK Q ?_))))))));refine TN (WN [1,3,5,6,7,39,40,41] Q Q (RS (SA TK Q (TN (WN [1,3,5,6,7,8,39,40,41] Q Q (TB (aO hm (λb25=>([(8,.d (.int .i64 b25))]:Fr)) (λb25=>([]:List (Nat×Blk))) [8] [1,3,5,6,7,39,40,41] [0,1,2] Q k0 Q Q Q Q Q (λb25 z26 hm hz26=>WN [1,3,5,6,7,8,39,40,41] Q Q ?_))))))));refine TQ (RS (SA TK Q (SA TK Q (SA TK Q (TN (WN [1,3,5,6,7,8,39,40,41,48] Q Q ?_))))));refine TC _ Q (λh27=>?_) (λh27=>?_)
    ·replace hm:=JT h27 hm;refine TS (WT (WN [1,3,5,6,7,8,39,40,41] Q Q ?_));refine bK hm (λ_=>([]:Fr)) (λ_=>([]:List (Nat×Blk))) [] [1,3,5,6,7,8,39,40,41] Q (λz28 hm hz28=>?_) (λj hm=>?_)
     ·refine TB (RS (SA TK Q (TN (WN [1,3,5,6,7,8,9,39,40,41] Q Q ?_))));refine aH hm (λcommon29=>([(9,.d (.bool (common29)))]:Fr)) (λcommon29=>([]:List (Nat×Blk))) [9] [1,3,5,6,7,8,39,40,41] Q (λz30 hm=>?_) (λcommon29 hm=>?_)
      ·refine RS (SA TK Q (SA TK Q (SX Q Q (aM TK Q Q Q) (SA TK Q (TN (WN [1,3,5,6,7,8,9,39,40,41,52,53,54] Q Q (TB (aO hm (λ(common33,x34)=>([(9,.d (.bool (common33))),(54,.d (.int .i64 x34))]:Fr)) (λ(common33,x34)=>([]:List (Nat×Blk))) [9,54] [1,3,5,6,7,8,39,40,41,52,53] [0,1,2] Q k0 Q Q Q Q Q (λs z35 hm hz35=>?_)))))))));obtain⟨common33,x34⟩:=s;refine WN [1,3,5,6,7,8,9,39,40,41,52,53,54] Q Q (RS (SA TK Q (TN (WN [1,3,5,6,7,8,9,39,40,41,52,53,54,55] Q Q (TQ ?_)))));refine TC _ Q (λh36=>?_) (λh36=>?_)
       ·replace hm:=JT h36 hm;refine TS (WT (WN [1,3,5,6,7,8,9,39,40,41,52,53,54] Q Q ?_));refine aH hm (λcommon37=>([(9,.d (.bool (common37)))]:Fr)) (λcommon37=>([]:List (Nat×Blk))) [9] [1,3,5,6,7,8,39,40,41,52,53,54] Q (λz38 hm=>?_) (λcommon37 hm=>?_)
        ·refine TB (RS (VE hm λe39 he39 hm=>SX Q Q (bF TK Q Q Q Q he39) (SA TK Q (SA TK Q (TN (WN [1,3,5,6,7,8,9,11,39,40,41,52,53,54] Q Q (RS (SA TK Q (SA TK Q (SA TK Q ?_))))))))));refine VE hm λe40 he40 hm=>SX Q Q (bF TK Q Q Q Q he40) (SA TK Q (SA TK Q (SX Q Q (aM TK Q Q Q) (SA TK Q (TN (WN [1,3,5,6,7,8,9,11,39,40,41,52,53,54,63,64,65] Q Q (TB (aO hm (λ(common43,x44)=>([(9,.d (.bool (common43))),(65,.d (.int .i64 x44))]:Fr)) (λ(common43,x44)=>([]:List (Nat×Blk))) [9,65] [1,3,5,6,7,8,11,39,40,41,52,53,54,63,64] [0,1,2] Q k0 Q Q Q Q Q (λs z45 hm hz45=>?_)))))))));obtain⟨common43,x44⟩:=s;refine WN [1,3,5,6,7,8,9,11,39,40,41,52,53,54,63,64,65] Q Q (RS (SA TK Q (TN (WN [1,3,5,6,7,8,9,11,39,40,41,52,53,54,63,64,65,66] Q Q (TQ ?_)))));refine TC _ Q (λh46=>?_) (λh46=>?_)
         ·replace hm:=JT h46 hm;refine TS (WT (WN [1,3,5,6,7,8,9,11,39,40,41,52,53,54,63,64,65] Q Q (TQ (TB (RS (VE hm λe47 he47 hm=>SX Q Q (bF TK Q Q Q Q he47) (SA TK Q (SA TK Q ?_))))))));refine TN (WN [1,3,5,6,7,8,9,11,13,39,40,41,52,53,54,63,64,65] Q Q (TG (SA TK Q (SB TK Q (λq48 hq48=>?_)))));cases q48
          ·replace hm:=JB hq48 hm;iterate 5 (refine SA TK Q ?_)
           refine TN (WK (WT (WN [1,3,5,6,7,8,9,11,39,40,41,52,53,54,63,64,65] Q Q (TG (GE hm λg49 hm=>SX Q Q (aU Q Q Q Q g49) (SA TK Q (TN ?_)))))));refine WT ?_;exact⟨_,[0,1,2],(SJ hm),Q,k0,Q⟩
          replace hm:=JA hq48 hm;iterate 5 (refine SA TK Q ?_)
          refine TN (WK (WT (WN [1,3,5,6,7,8,9,11,39,40,41,52,53,54,63,64,65] Q Q (TG (GE hm λg50 hm=>SX Q Q (aU Q Q Q Q g50) (SA TK Q (TN ?_)))))));refine WT ?_;exact⟨_,[0,1,2],(SJ hm),Q,k0,Q⟩
         replace hm:=JF h46 hm;refine aE (WX (IE hm λv51 hm hz=>?_));rw [hz45 _ hz] at hm;refine WX (WH (WK (WT ?_)));exact⟨_,[0,1,2],(SJ hm),Q,k0,Q⟩
        refine WN [1,3,5,6,7,8,9,39,40,41,52,53,54] Q Q (TG (GE hm λg52 hm=>SX Q Q (aU Q Q Q Q g52) (SA TK Q (TN (WT ?_)))));exact⟨_,[0,1,2],(SJ hm),Q,k0,Q⟩
       replace hm:=JF h36 hm;refine aE (WX (IE hm λv53 hm hz=>?_));rw [hz35 _ hz] at hm;refine WX (WH (WT ?_));exact⟨_,[0,1,2],(SJ hm),Q,k0,Q⟩
      refine WN [1,3,5,6,7,8,9,39,40,41] Q Q (RS (SA TK Q (SA TK Q (GE hm λg54 hm=>zFR (f:=D.bool) (x:=false) 3 TK Q Q Q qPT Q Q Q Q Q g54 Q (SX Q Q (gK Q zFS qNT Q Q Q Q) (cF 4 Q Q qNT Q (eB (f:=D.bool) 4 0 5 4 1 Q Q Q (cN 4 [none,some 1,none] Q Q ?_))))))));refine SA TK Q (cN 4 [none,some 1,none] Q Q (TN (WN [1,3,5,6,7,8,9,14,39,40,41] Q Q (bM follows  ?_))));iterate 5 (refine DA [0,1,2,3,4,5] TK Q ?_)
      refine VE hm λe55 he55 hm=>DX [0,1,2,3,4,5] Q Q (bF TK Q Q Q Q he55) (DA [0,1,2,3,4,5] TK Q (VE hm λe56 he56 hm=>DX [0,1,2,3,4,5] Q Q (pT TK Q Q Q Q he56 Q) ?_));refine DT ?_ (by kernel_rfl);refine qGX (x':=true) TK Q Q Q Q Q he56.2 Q Q Q (qBE 82 ((List.replicate r16.all.toNat false).set e55.toNat true).length Q List.length_set.symm ?_);refine qQJ 4 [.msl 3 1 0 ((List.replicate r16.all.toNat false).set e55.toNat true).length,.d (.sl 1 (([]:List Int).map (D.int .i64))),.d (.bool (false))] Q (by simp only [List.length_set]<;>rfl) ?_;refine TN (WN [1,3,5,6,7,8,9,14,39,40,41] Q Q (bM follows  ?_));iterate 5 (refine DA [0,1,2,3,4,5] TK Q ?_)
      refine VE hm λe57 he57 hm=>DX [0,1,2,3,4,5] Q Q (bF TK Q Q Q Q he57) (DA [0,1,2,3,4,5] TK Q (VE hm λe58 he58 hm=>DX [0,1,2,3,4,5] Q Q (pT TK Q Q Q Q he58 Q) ?_));refine DT ?_ (by kernel_rfl);refine qGX (x':=true) TK Q Q Q Q Q he58.2 Q Q Q (qBE 90 (((List.replicate r16.all.toNat false).set e55.toNat true).set e57.toNat true).length Q List.length_set.symm ?_);refine qQJ 4 [.msl 3 1 0 (((List.replicate r16.all.toNat false).set e55.toNat true).set e57.toNat true).length,.d (.sl 1 (([]:List Int).map (D.int .i64))),.d (.bool (false))] Q (by simp only [List.length_set]<;>rfl) ?_;refine TN (WN [1,3,5,6,7,8,9,14,39,40,41] Q Q ?_);refine aH hm (λx59=>([(103,.d (.bool (x59)))]:Fr)) (λx59=>([]:List (Nat×Blk))) [103] [1,3,5,6,7,8,39,40,41] Q (λz60 hm=>?_) (λx59 hm=>?_)
      ·refine TG (SA TK Q (SB TK Q (λq61 hq61=>?_)));cases q61
       ·replace hm:=JB hq61 hm;iterate 5 (refine SA TK Q ?_)
        refine TN (WT ?_);exact⟨_,[0,1,2,3,4,5],(SJ hm),Q,k0,Q⟩
       replace hm:=JA hq61 hm;refine SA TK Q (SA TK Q (BE hm λr62 hr62 hm=>SX Q Q (RN Q Q (SC (.d _) (SC (fG (.cons (bO Q) Q (.cons (.d _) Q (.cons (.d _) Q .nil)))) SN)) (uH hr62)) (SA TK Q (SA TK Q (TN (WT ?_))))));exact⟨_,[0,1,2,3,4,5],(SJ hm),Q,k0,Q⟩
      refine WN [1,3,5,6,7,8,39,40,41,103] Q Q ?_;refine TC _ Q (λh63=>?_) (λh63=>?_)
      ·replace hm:=JA h63 hm;refine RS (SA TK Q (TN (WN [2] Q Q (TR (WB (IE hm λv64 hm hz=>?_))))));rw [hz28 _ hz] at hm;refine WR (IE hm λv65 hm hz=>?_);rw [hz26 _ hz] at hm;refine WR (WB (WB (IE hm λv66 hm hz=>?_)));rw [hz22 _ hz] at hm;refine WR (IE hm λv67 hm hz=>?_);rw [hz20 _ hz] at hm;refine WR (WB (IE hm λv68 hm hz=>?_));rw [hz17 _ hz] at hm;refine WR ?_;obtain rfl:=OJ hm;exact EndsS.one _ Q (.d _) (.refl _)
      replace hm:=JB h63 hm;refine TS (WK (WT ?_));exact⟨_,[0,1,2],(SJ hm),Q,k0,Q⟩
     refine WN [1,3,5,6,7,8,39,40,41] Q Q (TG (SA TK Q (GE hm λg69 hm=>SX Q Q (aU Q Q Q Q g69) (SA TK Q (TN (WT ?_))))));exact⟨_,[0,1,2],(SJ hm),Q,k0,Q⟩
    replace hm:=JF h27 hm;refine aE (WX (IE hm λv70 hm hz=>?_));rw [hz26 _ hz] at hm;refine WX (WH (WK (WT ?_)));exact⟨_,[0,1],(SJ hm),Q,k0,Q⟩
   refine WN [1,3,5,39,40,41] Q Q (TG (GE hm λg71 hm=>SX Q Q (aU Q Q Q Q g71) (SA TK Q (TN (WT ?_)))));exact⟨_,[0,1],(SJ hm),Q,k0,Q⟩
  replace hm:=JF h21 hm;refine aE (WX (IE hm λv72 hm hz=>?_));rw [hz20 _ hz] at hm;refine WX (WH (WT ?_));exact⟨_,[0,1],(SJ hm),Q,k0,Q⟩
 refine WN [] Q Q (RS (BE hm λr73 hr73 hm=>SX Q Q (RN Q Q SN (qW hr73)) (SA TK Q (TN (WN [2] Q Q (TR ?_))))));obtain rfl:=OJ hm;exact EndsS.one _ Q (.d _) (.refl _)
structure RouteState where
 state:Int
 rel:Int
 timer:Int
deriving DecidableEq,Inhabited
def RouteState.ok (x:RouteState):Prop:=I64 x.state∧I64 x.rel∧I64 x.timer
instance (x:RouteState):Decidable (RouteState.ok x):=by unfold RouteState.ok;infer_instance
structure Inter where
 routes:(List RouteState)
 lies:(List Int)
deriving DecidableEq,Inhabited
def fU:Option Nat→Int
 | some i=>i
 | none=>-1
theorem qHL (o:Option Nat):decide (0≤fU o)=o.isSome:=by cases o<;>simp [fU]
theorem qMP (o:Option Nat):decide (fU o < 0)=!o.isSome:=by
 cases o with
 | none=>simp [fU]
 | some i=>show decide ((i:Int) < 0)=false;simp
theorem idx_at {α:Type} {p:α→Bool} {l:List α} {i:Nat} {x:α} (h:zAJ p l i) (hx:l[i]?=some x) (hs:p x=true):l.findIdx? p=some i:=by
 rw [List.findIdx?_eq_some_iff_getElem];have hlt:=(zQQ.1 hx).1;have he:=(zQQ.1 hx).2;refine⟨hlt,by rw [he];exact hs,λj hj=>?_⟩;unfold zAJ at h;rw [List.any_eq_false] at h;have:=h l[j] (List.mem_take_iff_getElem.2 ⟨j,by omega,rfl⟩);simpa using this
theorem oE {α:Type} {p:α→Bool} {l:List α} {i:Nat} (h:l.findIdx? p=some i):∃ x,l[i]?=some x∧p x=true∧i < l.length:=by
 rw [List.findIdx?_eq_some_iff_getElem] at h;obtain⟨hlt,hp,_⟩:=h;exact⟨l[i],by simp [hlt],hp,hlt⟩
def cW (l:List Int) (x:Int):Option Nat:=l.findIdx? λy=>y == x
theorem xS (l:List Int) (x:Int):(cW l x).isSome=decide (x∈l):=by
 unfold cW;rw [List.findIdx?_isSome,Bool.eq_iff_iff,zQU];simp
def sW (n:Nat) (P:Nat→Bool):Bool:=(List.range n).all P
def upTo (P:Nat→Bool) (i:Nat):Prop:=∀ j,j < i→P j=true
theorem allB_iff {P:Nat→Bool} {n:Nat}:sW n P=true↔∀ i,i < n→P i=true:=by
 unfold sW;rw [zQT];simp
def inB (n c:Int):Bool:=decide (0≤n∧n < c)
def qQ (t:Table) (i:Nat):Bool:=decide (0≤t.points.getD i 0∧(0 < i→t.points.getD (i - 1) 0 < t.points.getD i 0)∧0≤t.homes.getD i 0∧t.homes.getD i 0 < t.sections)
def mR (t:Table):Bool:=decide (t.homes.length=t.points.length)&&sW t.points.length (qQ t)
theorem qAI {t:Table} {i:Nat} {p q h:Int} (hp:t.points[i]?=some p) (hq:t.points[i - 1]?=some q) (hh:t.homes[i]?=some h):qQ t i=decide (0≤p∧(0 < i→q < p)∧0≤h∧h < t.sections):=by
 simp only [qQ,zQD,hp,hq,hh,Option.getD_some]
def yB (t:Table) (l:List Setting) (i:Nat):Bool:=decide ((cW t.points (l.getD i ⟨0,0⟩).el).isSome=true∧1≤(l.getD i ⟨0,0⟩).pos∧(l.getD i ⟨0,0⟩).pos≤2∧(0 < i→(l.getD (i - 1) ⟨0,0⟩).el < (l.getD i ⟨0,0⟩).el))
def fH (t:Table) (l:List Setting):Bool:=sW l.length (yB t l)
theorem qDJ {t:Table} {l:List Setting} {i:Nat} {x y:Setting} (hx:l[i]?=some x) (hy:l[i - 1]?=some y):yB t l i=decide ((cW t.points x.el).isSome=true∧1≤x.pos∧x.pos≤2∧(0 < i→y.el < x.el)):=by
 simp only [yB,zQD,hx,hy,Option.getD_some]
def lA (a b:List Setting):Bool:=a.all λx=>b.all λy=>!(decide (x.el=y.el)&&!decide (x.pos=y.pos))
def qOC (t:Table) (l:List Int) (i:Nat):Bool:=inB (l.getD i 0) t.sections&&!decide (l.getD i 0∈l.take i)
def qBD (t:Table) (l:List Int):Bool:=sW l.length (qOC t l)
theorem sF {t:Table} {l:List Int} {i:Nat} {s:Int} (hs:l[i]?=some s):qOC t l i=(inB s t.sections&&!decide (s∈l.take i)):=by
 simp only [qOC,zQD,hs,Option.getD_some]
def qQY (t:Table) (r:Route):Bool:=inB r.entry t.signals&&decide (-1≤r.exit∧r.exit < t.signals)&&decide (1≤r.path.length∧r.path.length≤12)
def jR (t:Table) (r:Route):Bool:=qQY t r&&decide (0 < r.sections.length)&&qBD t (r.sections++r.overSections)&&inB r.approach t.sections&&decide (1≤r.length)
def nJ (t:Table) (r:Route):Bool:=fH t r.points&&fH t r.overPoints&&fH t r.flank
def mU (r:Route):Bool:=lA r.points r.overPoints&&lA r.points r.flank&&lA r.overPoints r.flank
def wQ (l:List Route) (i:Nat):Bool:=(l[i]?).all λr=>!((l.take i).any λq=>decide (q.name=r.name))
def uJ (l:List Route):Bool:=sW l.length (wQ l)
theorem qEA {l:List Route} {i:Nat} {r:Route} (hr:l[i]?=some r):wQ l i=!((l.take i).any λq=>decide (q.name=r.name)):=by simp only [wQ,hr,Option.all_some]
def qCC (t:Table):Bool:=decide (t.routes.length≤48∧t.points.length≤32∧0≤t.sections∧t.sections≤24∧0≤t.signals∧t.signals≤20)
def gM (t:Table):Int:=
 if qCC t=false then 2
 else if mR t=false then 1
 else if t.routes.all (λr=>jR t r&&nJ t r)=false then 1
 else if t.routes.all mU=false then 10
 else if uJ t.routes=false then 8
 else 0
section chk
variable {t:Table}
theorem qHP (h:qCC t=false):gM t=2:=by simp [gM,h]
theorem zF (h1:qCC t=true) (h:mR t=false):gM t=1:=by simp [gM,h1,h]
end chk
def lJ (l:List Int) (i:Nat):List Bool:=(List.range 24).map λ(j:Nat)=>decide ((j:Int)∈l.take i)
theorem qKN (l:List Int):lJ l 0=List.replicate 24 false:=by simp [lJ,List.map_const']
theorem qFN (l:List Int) (i:Nat):(lJ l i).length=24:=by simp [lJ]
theorem qNX (l:List Int) (i:Nat) {s:Int} (h0:0≤s) (h1:s < 24):(lJ l i)[s.toNat]?=some (decide (s∈l.take i)):=by
 have:s.toNat < 24:=by omega
 simp [lJ,this,Int.toNat_of_nonneg h0]
theorem qNW {l:List Int} {i:Nat} {s:Int} (hs:l[i]?=some s) (h0:0≤s) (h1:s < 24):(lJ l i).set s.toNat true=lJ l (i+1):=by
 apply List.ext_getElem?;intro j;by_cases hj:j < 24
 ·have e1 : ∀ k, (lJ l k)[j]? = some (decide ((j : Int) ∈ l.take k)) := fun k => by simp [lJ, hj]
  rw [List.getElem?_set,e1,e1,List.take_add_one,hs];split
  ·rename_i e;rw [if_pos (by rw [qFN];omega)];have:(j:Int)=s:=by omega
   simp [this]
  rename_i e;have:¬ (j:Int)=s:=by omega
  simp [this]
 rw [List.getElem?_eq_none (by simp [lJ];omega),List.getElem?_eq_none (by simp [lJ];omega)]
def gU (l:List Route) (i:Nat):List (ByteArray×Bool):=(l.take i).map λr=>(r.name,true)
theorem qJG (l:List Route):gU l 0=[]:=by simp [gU]
theorem yT {l:List Route} {i:Nat} {r:Route} (hr:l[i]?=some r):gU l i++[(r.name,true)]=gU l (i+1):=by
 unfold gU;rw [List.take_add_one,hr];simp
theorem qGK (l:List Route) (i:Nat) (s:ByteArray):(match gC (gU l i) s with|some b=>D.bool b|none=>D.bool false)=D.bool ((l.take i).any λq=>decide (q.name=s)):=by
 unfold gU
 induction l.take i with
 | nil=>rfl
 | cons x r ih=>
  simp only [List.map_cons,List.any_cons,gC,List.find?_cons]
  cases h:decide (x.name=s) with
  | true=>simp
  | false=>simpa [gC] using ih
theorem qJH {l:List Route} {i:Nat} {s:ByteArray} (h:((l.take i).any λq=>decide (q.name=s))=false):gC (gU l i) s=none:=by
 unfold gU gC;rw [Option.map_eq_none_iff,List.find?_eq_none];intro x hx;simp only [List.mem_map] at hx;obtain⟨r,hr,rfl⟩:=hx;rw [List.any_eq_false] at h;simpa using h r hr
theorem wP {l:List Route}:∀ {i:Nat},upTo (wQ l) i→((gU l i).map (·.1)).Nodup
 | 0,_=>by simp [gU]
 | i+1,h=>by
  have ih:=wP (i:=i) λj hj=>h j (by omega)
  cases hr:l[i]? with
  | none=>unfold gU at *; rw [List.take_add_one,hr];simpa using ih
  | some r=>
   have hn:=h i (by omega);rw [qEA hr] at hn;rw [← yT hr,List.map_append,List.nodup_append];refine⟨ih,by simp,λa ha b hb e=>?_⟩;simp only [List.map_cons,List.map_nil,List.mem_singleton] at hb;subst hb;subst e;unfold gU at ha;simp only [List.map_map,List.mem_map,Function.comp_apply] at ha;obtain⟨q,hq,he⟩:=ha;simp only [Bool.not_eq_true',List.any_eq_false] at hn;exact hn q hq (by simp [he])
theorem qSW {l:List Route} {i:Nat} {r:Route} (hr:l[i]?=some r):decide (fU (l.findIdx? λq=>decide (q.name=r.name))=(i:Int))=wQ l i:=by
 rw [qEA hr,Bool.eq_iff_iff];have hi:=(zQQ.1 hr).1;have hri:=(zQQ.1 hr).2;simp only [decide_eq_true_eq,Bool.not_eq_true',List.any_eq_false];constructor
 ·intro h q hq
  cases e:l.findIdx? λq=>decide (q.name=r.name) with
  | none=>rw [e] at h;simp only [fU] at h;omega
  | some j=>
   rw [e] at h;simp only [fU] at h;have:j=i:=by omega
   subst this;rw [List.findIdx?_eq_some_iff_getElem] at e;obtain⟨_,_,h3⟩:=e;obtain⟨k,hk,rfl⟩:=List.mem_take_iff_getElem.1 hq;simpa using h3 k (by omega)
 intro h
 have:l.findIdx? (λq=>decide (q.name=r.name))=some i:=by
  refine idx_at (x:=r) ?_ hr (by simp);unfold zAJ;rw [List.any_eq_false];simpa using h
 rw [this];rfl
def qDO (x:RouteState) (n:Int):Bool:=
 if x.state=0∨x.state=1∨x.state=2 then decide (x.rel=0∧x.timer=0)
 else if x.state=3 then decide (0≤x.rel∧x.rel < n∧(x.timer=0∨(x.rel=n - 1∧0 < x.timer∧x.timer < 4)))
 else if x.state=4 then decide (0≤x.rel∧x.rel < n∧0≤x.timer∧x.timer < 12)
 else false
theorem iD {i n:Nat} (h:i < n):((i:Int) < (n:Int))=True:=by simp [h]
abbrev Cnt {α:Type} (l:List α):Prop:=l.length≤9223372036854775807
theorem nF (l:List Int) (x:Int) (h:Cnt l):dC l x=some (fU (cW l x)):=by
 unfold dC;rw [vO l (λy=>y == x) (λi=>.inr (i:Int)) (.inl ()) h]
 ·unfold cW;cases l.findIdx? (λy=>y == x)<;>rfl
 ·intro i e he;have hi:=(zQQ.1 he).1;simp only [iD hi,if_true,aX he];by_cases hx:x=e
  ·simp [hx]
  have : ¬ (e == x) = true := by simp; exact fun q => hx q.symm
  simp [hx,this,bG hi h]
 simp
theorem lB (t:Table) (x:Int) (h:Cnt t.points):fF t x=some (fU (cW t.points x)):=by
 simp [fF,nF _ _ h]
theorem qPE (t:Table) (x:Int) (h:Cnt t.points):mZ t x=some (fU (cW t.points x)):=by
 unfold mZ;rw [vO t.points (λy=>y == x) (λi=>.inr (i:Int)) (.inl ()) h]
 ·unfold cW;cases t.points.findIdx? (λy=>y == x)<;>rfl
 ·intro i e he;have hi:=(zQQ.1 he).1;simp only [iD hi,if_true,aX he];by_cases hx:e=x
  ·simp [hx]
  simp [hx,bG hi h]
 simp
theorem uR (l:List Int) (x:Int) (h:Cnt l):dR l x=some (decide (x∈l)):=by
 simp only [dR,nF l x h,aA,Option.some.injEq];rw [qHL,xS]
theorem vD (n c:Int):dQ n c=some (inB n c):=by simp [dQ,inB]
theorem iX (n:Nat) (P:Nat→Bool):((List.range n).any λi=>!P i)=!sW n P:=by simp [sW,List.not_all_eq_any_not]
theorem yS {α:Type} (l:List α) (P:α→Bool):(l.any λi=>!P i)=!l.all P:=by simp [List.not_all_eq_any_not]
theorem qDX (t:Table) (h:Cnt t.points):iH t=some (mR t):=by
 unfold iH mR;by_cases e:t.homes.length=t.points.length
 ·rw [if_pos (by rw [e]), kA t.points.length (fun i => !qQ t i) (.inr false) (.inl ()) h, iX]
  ·simp only [e,decide_true,Bool.true_and];cases sW t.points.length (qQ t)<;>rfl
  ·intro i hi;obtain⟨p,hp⟩:=kW hi;obtain⟨q,hq⟩:=kW (xs:=t.points) (i:=i - 1) (by omega);obtain⟨hm,hh⟩:=kW (xs:=t.homes) (i:=i) (by omega);simp only [iD hi,if_true,aX hp,aX hh,vD,aA];rw [qAI hp hq hh];by_cases h0:0 < i
   ·have e1 : ((i : Int) - 1) = ((i - 1 : Nat) : Int) := by omega
    have e2:I64 ((i - 1:Nat):Int):=by unfold I64;omega
    have e3:(0:Int) < (i:Int):=by omega
    simp only [e1,aC e2,aX hq,e3,if_true];simp only [jJ,aA,aC (bG hi h),fT]
    grind [inB]
   have e3 : ¬ (0 : Int) < (i : Int) := by omega
   simp only [e3,if_false,jJ,aA,aC (bG hi h),fT]
   grind [inB]
  simp
 rw [if_neg (by omega)];simp [e]
theorem mD (t:Table) (l:List Setting) (ht:Cnt t.points) (h:Cnt l):dL t l=some (fH t l):=by
 unfold dL fH;rw [kA l.length (λi=>!yB t l i) (.inr false) (.inl ()) h,iX]
 ·cases sW l.length (yB t l)<;>rfl
 ·intro i hi;obtain⟨x,hx⟩:=kW hi;obtain⟨y,hy⟩:=kW (xs:=l) (i:=i - 1) (by omega);simp only [iD hi,if_true,aX hx,lB _ _ ht,aA,qMP];rw [qDJ hx hy];by_cases h0:0 < i
  ·have e1 : ((i : Int) - 1) = ((i - 1 : Nat) : Int) := by omega
   have e2:I64 ((i - 1:Nat):Int):=by unfold I64;omega
   have e3:(0:Int) < (i:Int):=by omega
   simp only [e1,aC e2,aX hy,e3,if_true,jJ,aA,aC (bG hi h),fT]
   grind
  have e3 : ¬ (0 : Int) < (i : Int) := by omega
  simp only [e3,if_false,jJ,aA,aC (bG hi h),fT]
  grind
 simp
theorem qH (t:Table) (l:List Setting) (ht:Cnt t.points) (h:Cnt l):fB t l=some (fH t l):=by
 unfold fB fH;rw [kA l.length (λi=>!yB t l i) (.inr false) (.inl ()) h,iX]
 ·cases sW l.length (yB t l)<;>rfl
 ·intro i hi;obtain⟨x,hx⟩:=kW hi;obtain⟨y,hy⟩:=kW (xs:=l) (i:=i - 1) (by omega);have hneg:=qMP (cW t.points x.el);simp only [iD hi,if_true,aX hx,qPE _ _ ht,aA];rw [qDJ hx hy];by_cases h0:0 < i
  ·have e1 : ((i : Int) - 1) = ((i - 1 : Nat) : Int) := by omega
   have e2:I64 ((i - 1:Nat):Int):=by unfold I64;omega
   have e3:(0:Int) < (i:Int):=by omega
   simp only [e1,aC e2,aX hy,e3,if_true,jJ,aA,aC (bG hi h),fT]
   grind
  have e3 : ¬ (0 : Int) < (i : Int) := by omega
  simp only [e3,if_false,jJ,aA,aC (bG hi h),fT]
  grind
 simp
theorem qHT (a b:List Setting):(a.any λx=>b.any λy=>decide (x.el=y.el)&&!decide (x.pos=y.pos))=!lA a b:=by
 unfold lA;rw [List.not_all_eq_any_not]
 congr 1
 funext x
 rw [List.not_all_eq_any_not];simp
theorem qFI (a b:List Setting) (ha:Cnt a) (hb:Cnt b):fD a b=some (lA a b):=by
 unfold fD;rw [lT a (λx=>b.any λy=>decide (x.el=y.el)&&!decide (x.pos=y.pos)) (.inr false) (.inl ()) ha,qHT]
 ·cases lA a b<;>rfl
 ·intro i x hx;have hi:=(zQQ.1 hx).1;simp only [iD hi,if_true,aX hx];rw [lT b (λy=>decide (x.el=y.el)&&!decide (x.pos=y.pos)) (.inr (.inr (.inr false))) (.inl ()) hb]
  ·simp only [aC (bG hi ha)];split<;>rfl
  ·intro j y hy;have hj:=(zQQ.1 hy).1;simp only [iD hj,if_true,aX hy,aC (bG hj hb),fT]
  simp
 simp
theorem xY (a b:List Setting) (ha:Cnt a) (hb:Cnt b):gY a b=some (lA a b):=by
 unfold gY;rw [lT a (λx=>b.any λy=>decide (x.el=y.el)&&!decide (x.pos=y.pos)) (.inr false) (.inl ()) ha,qHT]
 ·cases lA a b<;>rfl
 ·intro i x hx;have hi:=(zQQ.1 hx).1;simp only [iD hi,if_true,aX hx];rw [lT b (λy=>decide (x.el=y.el)&&!decide (x.pos=y.pos)) (.inr (.inr (.inr false))) (.inl ()) hb]
  ·simp only [aC (bG hi ha)];split<;>rfl
  ·intro j y hy;have hj:=(zQQ.1 hy).1;simp only [iD hj,if_true,aX hy,aC (bG hj hb),fT]
  simp
 simp
structure Short (r:Route):Prop where
 secs:r.sections.length+r.overSections.length≤2000000
 points:r.points.length≤2000000
 over:r.overPoints.length≤2000000
 flank:r.flank.length≤2000000
structure TOk (t:Table):Prop where
 routes:t.routes.length≤2000000
 points:t.points.length≤2000000
 each:∀ r∈t.routes,Short r
theorem qFP (t:Table) (l:List Int) (h:Cnt l):jT t l=some (qBD t l):=by
 unfold jT qBD;rw [kA l.length (λi=>!qOC t l i) (.inr false) (.inl ()) h,iX]
 ·cases sW l.length (qOC t l)<;>rfl
 ·intro i hi;obtain⟨x,hx⟩:=kW hi;simp only [iD hi,if_true,aX hx];rw [sF hx]
  have hm:((List.range i).any λj=>decide (l[j]?=some x))=decide (x∈l.take i):=by
   rw [Bool.eq_iff_iff,zQU,decide_eq_true_eq,List.mem_take_iff_getElem];constructor
   ·rintro⟨j,hj,hjx⟩;have hj:=List.mem_range.1 hj;have:=of_decide_eq_true hjx;obtain⟨h1,h2⟩:=zQQ.1 this;exact⟨j,by omega,h2⟩
   rintro⟨j,hj,rfl⟩;exact⟨j,List.mem_range.2 (by omega),by simp⟩
  by_cases hb:x < 0∨t.sections≤x
  ·have : inB x t.sections = false := by unfold inB; simp; omega
   simp only [this];simp [hb]
  have hin : inB x t.sections = true := by unfold inB; simp; omega
  rw [if_neg (by simpa using hb),kA i (λj=>decide (l[j]?=some x)) (.inr (.inr (.inr false))) (.inl ()) (by omega),hm]
  ·simp only [hin,Bool.true_and,Bool.not_not,aC (bG hi h)];split<;>rfl
  ·intro j hj;obtain⟨y,hy⟩:=kW (xs:=l) (i:=j) (by omega);simp only [iD hj,if_true,aX hy,hy,aC (bG hj (by omega)),fT,Option.some.injEq,decide_eq_true_eq]
  simp
 simp
theorem qOG (t:Table) (r:Route) (h:Short r):lC t r=some (jR t r):=by
 have h1:=h.secs;unfold lC jR qQY;rw [aC (by simp;omega),aC (by simp;omega)];simp only [List.nil_append,qFP t (r.sections++r.overSections) (by simp;omega),aA,jJ]
 grind [inB]
theorem vV (xss:List (List Int)) (h:xss.length≤1000∧xss.flatten.length≤1000000000):fN xss=some xss.flatten:=aC h
theorem qFQ (t:Table) (r:Route) (hs:t.sections≤24) (h:Short r):hZ t r=some (jR t r):=by
 have h1:=h.secs;unfold hZ;rw [vV _ (by simp;omega)];have hcat:([r.sections,r.overSections]:List (List Int)).flatten=r.sections++r.overSections:=by simp
 simp only [hcat,aA,vD,jJ];generalize hl:r.sections++r.overSections=l;have hln:l.length≤2000000:=by rw [← hl];simp;omega
 rw [qHI l.length (lJ l) (λi=>!qOC t l i) (.inr false) (.inl (lJ l l.length)) (qKN l).symm (by omega),iX]
 ·unfold jR qQY qBD;rw [hl];clear hcat hl;cases sW l.length (qOC t l)
  ·simp only [Bool.not_false,if_true,qHR,qEH,Option.some.injEq];rw [Bool.eq_iff_iff];simp only [qNK,zQA,decide_eq_true_eq,Bool.or_eq_true,inB,Bool.not_eq_true',decide_eq_false_iff_not]
   grind
  simp only [Bool.not_true,Bool.false_eq_true,if_false,oK,qEH,Option.some.injEq];rw [Bool.eq_iff_iff];simp only [qNK,zQA,decide_eq_true_eq,Bool.or_eq_true,inB,Bool.not_eq_true',decide_eq_false_iff_not]
  grind
 ·intro i hi _;obtain⟨x,hx⟩:=kW hi;simp only [iD hi,if_true,aX hx];rw [sF hx];by_cases hin:inB x t.sections=true
  ·have hx0 : 0 ≤ x ∧ x < 24 := by unfold inB at hin; simp at hin; omega
   have hg:=qNX l i hx0.1 hx0.2;simp only [hin,aC hx0.2,qMT hx0.1 hg,aA,Bool.not_true,Bool.true_and,Bool.not_not,aC (bG hi (by omega)),qNW hx hx0.1 hx0.2,fT];by_cases hm:x∈l.take i<;>simp [hm]
  have hin : inB x t.sections = false := by simpa using hin
  simp [hin]
 intro _;simp
theorem qLS {α β:Type} [DecidableEq α] {fs:List (α×β)} {k:α} {v:β} (h:gC fs k=none):qJA fs k v=fs++[(k,v)]:=by
 unfold qJA
 have:(fs.findIdx? λx=>decide (x.1=k))=none:=by
  unfold gC at h;rw [Option.map_eq_none_iff,List.find?_eq_none] at h;rw [List.findIdx?_eq_none_iff];intro x hx;simpa using h x hx
 rw [this]
theorem qME (t : Table) (h : t.routes.length ≤ 2000000) (k : List (ByteArray × Bool) → Option Int) : cR (aQ (fun (x, b) =>
     if x < (t.routes.length : Int) then
      aT t.routes x fun e =>
      aD (b.map (·.1)).Nodup <|
      if (((gC b e.name).getD false)) = true then
       aI (aI (some (8 : Int)))
      else
       aD (b.map (·.1)).Nodup <|
       aD (I64 (x + (1 : Int))) <|
       some (.inl ((x + (1 : Int)), (qJA b e.name true)))
     else
      aI (some (.inl b))) ((0 : Int), ([] : List (ByteArray × Bool)))) k = if uJ t.routes = true then k (gU t.routes t.routes.length) else some 8 := by
 rw [qHI t.routes.length (gU t.routes) (λi=>!wQ t.routes i) (.inr 8) (.inl (gU t.routes t.routes.length)) (qJG _).symm (by omega),iX]
 ·unfold uJ;cases sW t.routes.length (wQ t.routes)<;>rfl
 ·intro i hi hj;obtain⟨x,hx⟩:=kW hi;have hnd:((gU t.routes i).map (·.1)).Nodup:=wP λj hjj=>by have:=hj j hjj;simpa using this
  simp only [iD hi,if_true,aX hx,aC hnd,aC (bG hi (by omega))];rw [qEA hx,Bool.not_not];have ha:=qGK t.routes i x.name
  cases hc:((t.routes.take i).any λq=>decide (q.name=x.name)) with
  | true=>
   rw [hc] at ha
   have:((gC (gU t.routes i) x.name).getD false)=true:=by
    cases e:gC (gU t.routes i) x.name with
    | none=>rw [e] at ha;simp at ha
    | some b=>rw [e] at ha;simp at ha;simp [ha]
   simp [this]
  | false=>
   have hn:=qJH hc;simp [hn,qLS hn,yT hx]
 intro hj;simp
theorem qMD (l : List Route) (P : Route → Bool) (v : Int) (h : l.length ≤ 2000000) (g : Route → Option Bool) (hg : ∀ r ∈ l, g r = some (P r)) (k : Unit → Option Int) : cR (aQ (fun x =>
     if x < (l.length : Int) then
      aT l x fun e =>
      aB (g e) fun r =>
      if (!(r)) = true then
       aI (aI (some v))
      else
       aD (I64 (x + (1 : Int))) <|
       some (.inl (x + (1 : Int)))
     else
      aI (some (.inl ()))) (0 : Int)) k = if l.all P = true then k () else some v := by
 rw [lT l (λr=>!P r) (.inr v) (.inl ()) (by omega),yS]
 ·cases l.all P<;>rfl
 ·intro i x hx;have hi:=(zQQ.1 hx).1;simp only [iD hi,if_true,aX hx,hg x (zQM hx),aA,aC (bG hi (by omega)),fT]
 simp
theorem oC (l : List Route) (P : Route → Bool) (v : Int) (h : l.length ≤ 2000000) (g : Route → Option Bool) (hg : ∀ r ∈ l, g r = some (!P r)) (k : Unit → Option Int) : cR (aQ (fun x =>
     if x < (l.length : Int) then
      aT l x fun e =>
      aB (g e) fun r =>
      if r = true then
       aI (aI (some v))
      else
       aD (I64 (x + (1 : Int))) <|
       some (.inl (x + (1 : Int)))
     else
      aI (some (.inl ()))) (0 : Int)) k = if l.all P = true then k () else some v := by
 rw [lT l (λr=>!P r) (.inr v) (.inl ()) (by omega),yS]
 ·cases l.all P<;>rfl
 ·intro i x hx;have hi:=(zQQ.1 hx).1;simp only [iD hi,if_true,aX hx,hg x (zQM hx),aA,aC (bG hi (by omega)),fT]
 simp
theorem qRV (t:Table) (r:Route) (ht:Cnt t.points) (h:Short r):(aB (dL t r.points) λa=>if (!(a))=true then some true else aB (dL t r.overPoints) λb=>if (!(b))=true then some true else aB (dL t r.flank) λc=>some (!(c)))=some (!nJ t r):=by
 have h1:=h.points;have h2:=h.over;have h3:=h.flank;rw [mD t _ ht (by omega),mD t _ ht (by omega),mD t _ ht (by omega)];unfold nJ;cases fH t r.points<;>cases fH t r.overPoints<;>cases fH t r.flank<;>rfl
theorem qPR (r:Route) (h:Short r):(aB (fD r.points r.overPoints) λa=>if (!(a))=true then some true else aB (fD r.points r.flank) λb=>if (!(b))=true then some true else aB (fD r.overPoints r.flank) λc=>some (!(c)))=some (!mU r):=by
 have h1:=h.points;have h2:=h.over;have h3:=h.flank;rw [qFI _ _ (by omega) (by omega),qFI _ _ (by omega) (by omega),qFI _ _ (by omega) (by omega)];unfold mU;cases lA r.points r.overPoints<;>cases lA r.points r.flank<;>cases lA r.overPoints r.flank<;>rfl
theorem qNR (r:Route) (h:Short r):(aB (gY r.points r.overPoints) λa=>if (!(a))=true then some true else aB (gY r.points r.flank) λb=>if (!(b))=true then some true else aB (gY r.overPoints r.flank) λc=>some (!(c)))=some (!mU r):=by
 have h1:=h.points;have h2:=h.over;have h3:=h.flank;rw [xY _ _ (by omega) (by omega),xY _ _ (by omega) (by omega),xY _ _ (by omega) (by omega)];unfold mU;cases lA r.points r.overPoints<;>cases lA r.points r.flank<;>cases lA r.overPoints r.flank<;>rfl
theorem qTG (l:List Route) (p q:Route→Bool):l.all (λr=>p r&&q r)=(l.all p&&l.all q):=by
 rw [Bool.eq_iff_iff];simp only [zQT,zQA];exact⟨λh=>⟨λx hx=>(h x hx).1,λx hx=>(h x hx).2⟩,λh x hx=>⟨h.1 x hx,h.2 x hx⟩⟩
theorem qNF (t:Table) (h:TOk t):mX t=some (gM t):=by
 have hp:=h.points;have hr:=h.routes;unfold mX;by_cases hl:qCC t=true
 ·have hs : t.sections ≤ 24 := by unfold qCC at hl; simp at hl; omega
  have hc : (if (48 : Int) < (t.routes.length : Int) then some true
   else if (32 : Int) < (t.points.length : Int) then some true
   else aB (dQ t.sections (25 : Int)) fun r5 => if (!(r5)) = true then some true else aB (dQ t.signals (21 : Int)) fun r7 => some (!(r7))) = some false := by
   simp only [vD,aA];unfold qCC at hl;simp only [decide_eq_true_eq] at hl;rw [if_neg (by omega),if_neg (by omega),if_neg (by unfold inB;simp;omega)];simp [inB];omega
  rw [hc];simp only [aA,qDX t (by omega)];by_cases hpb:mR t=true
  ·simp only [hpb];simp only [Bool.not_true,Bool.false_eq_true,if_false];rw [qMD t.routes (jR t) 1 hr (hZ t) (λr hm=>qFQ t r hs (h.each r hm))];rw [oC t.routes (nJ t) 1 hr _ (λr hm=>qRV t r (by omega) (h.each r hm)),oC t.routes mU 10 hr _ (λr hm=>qPR r (h.each r hm)),qME t hr];unfold gM;rw [qTG];simp only [hl,hpb];cases t.routes.all (jR t)<;>cases t.routes.all (nJ t)<;>cases t.routes.all mU<;>cases uJ t.routes<;>rfl
  rw [zF hl (by simpa using hpb)];simp [hpb]
 rw [qHP (by simpa using hl)]
 have hc : (if (48 : Int) < (t.routes.length : Int) then some true
  else if (32 : Int) < (t.points.length : Int) then some true
  else aB (dQ t.sections (25 : Int)) fun r5 => if (!(r5)) = true then some true else aB (dQ t.signals (21 : Int)) fun r7 => some (!(r7))) = some true := by
  simp only [vD,aA];unfold qCC at hl;simp only [decide_eq_true_eq] at hl
  grind [inB]
 rw [hc];rfl
theorem qSY (t:Table) (s:ByteArray) (h:Cnt t.routes):mG t s=some (fU (t.routes.findIdx? λq=>decide (q.name=s))):=by
 unfold mG;rw [vO t.routes (λq=>decide (q.name=s)) (λi=>.inr (i:Int)) (.inl ()) h]
 ·cases t.routes.findIdx? (λq=>decide (q.name=s))<;>rfl
 ·intro i e he;have hi:=(zQQ.1 he).1;simp only [iD hi,if_true,aX he];by_cases hx:e.name=s
  ·simp [hx]
  simp [hx,bG hi h]
 simp
theorem qLV (t : Table) (h : Cnt t.points) (e : t.homes.length = t.points.length) (k : Unit → Option Int) : cR (
    aQ (fun x10 =>
     if x10 < (t.points.length : Int) then
      aT t.points x10 fun e13 =>
      aB (
       if e13 < (0 : Int) then
        some true
       else
        if (0 : Int) < x10 then
         aD (I64 (x10 - (1 : Int))) <|
         aT t.points (x10 - (1 : Int)) fun e22 =>
         if e13 ≤ e22 then
          some true
         else
          aT t.homes x10 fun e24 =>
          if e24 < (0 : Int) then
           some true
          else
           aT t.homes x10 fun e26 =>
           some (decide (t.sections ≤ e26))
        else
         aT t.homes x10 fun e18 =>
         if e18 < (0 : Int) then
          some true
         else
          aT t.homes x10 fun e20 =>
          some (decide (t.sections ≤ e20))) fun x14 =>
      if x14 = true then
       aI (
        aI (
         some (1 : Int)))
      else
       aD (I64 (x10 + (1 : Int))) <|
       some (.inl (x10 + (1 : Int)))
     else
      aI (
       some (.inl ()))) (0 : Int)) k = if sW t.points.length (qQ t) = true then k () else some 1 := by
 rw [kA t.points.length (λi=>!qQ t i) (.inr 1) (.inl ()) h,iX]
 ·cases sW t.points.length (qQ t)<;>rfl
 ·intro i hi;obtain⟨p,hp⟩:=kW hi;obtain⟨q,hq⟩:=kW (xs:=t.points) (i:=i - 1) (by omega);obtain⟨hm,hh⟩:=kW (xs:=t.homes) (i:=i) (by omega);simp only [iD hi,if_true,aX hp,aX hh,aA];rw [qAI hp hq hh];by_cases h0:0 < i
  ·have e1 : ((i : Int) - 1) = ((i - 1 : Nat) : Int) := by omega
   have e2:I64 ((i - 1:Nat):Int):=by unfold I64;omega
   have e3:(0:Int) < (i:Int):=by omega
   simp only [e1,aC e2,aX hq,e3,if_true,jJ,aA,aC (bG hi h),fT]
   grind
  have e3 : ¬ (0 : Int) < (i : Int) := by omega
  simp only [e3,if_false,jJ,aA,aC (bG hi h),fT]
  grind
 simp
theorem qJL (t : Table) (h : t.routes.length ≤ 2000000) (k : Unit → Option Int) : cR (
    aQ (fun x72 =>
     if x72 < (t.routes.length : Int) then
      aT t.routes x72 fun e75 =>
      aB (mG t e75.name) fun r76 =>
      if r76 = x72 then
       aD (I64 (x72 + (1 : Int))) <|
       some (.inl (x72 + (1 : Int)))
      else
       aI (
        aI (
         some (8 : Int)))
     else
      aI (
       some (.inl ()))) (0 : Int)) k = if uJ t.routes = true then k () else some 8 := by
 rw [kA t.routes.length (λi=>!wQ t.routes i) (.inr 8) (.inl ()) (by omega),iX]
 ·unfold uJ;cases sW t.routes.length (wQ t.routes)<;>rfl
 ·intro i hi;obtain⟨x,hx⟩:=kW hi;have hf:=qSW hx;simp only [iD hi,if_true,aX hx,qSY t _ (show Cnt t.routes by unfold Cnt;omega),aA,aC (bG hi (by omega)),fT]
  cases hb:wQ t.routes i with
  | true=>rw [hb] at hf;rw [if_pos (of_decide_eq_true hf)];simp
  | false=>rw [hb] at hf;rw [if_neg (of_decide_eq_false hf)];simp
 simp
theorem qFR (t:Table) (r:Route) (ht:Cnt t.points) (h:Short r):(aB (lC t r) λa=>if (!(a))=true then some true else aB (fB t r.points) λb=>if (!(b))=true then some true else aB (fB t r.overPoints) λc=>if (!(c))=true then some true else aB (fB t r.flank) λd=>some (!(d)))=some (!(jR t r&&nJ t r)):=by
 have h1:=h.points;have h2:=h.over;have h3:=h.flank;rw [qOG t r h,qH t _ ht (by omega),qH t _ ht (by omega),qH t _ ht (by omega)];unfold nJ;cases jR t r<;>cases fH t r.points<;>cases fH t r.overPoints<;>cases fH t r.flank<;>rfl
theorem qPM (t:Table) (h:TOk t):nA t=some (gM t):=by
 have hp:=h.points;have hr:=h.routes;unfold nA;by_cases hl:qCC t=true
 ·rw [if_neg (by unfold qCC at hl; simp only [decide_eq_true_eq] at hl; simp only [Bool.or_eq_true, decide_eq_true_eq]; omega)];by_cases e:t.homes.length=t.points.length
  ·rw [if_pos (by rw [e]), qLV t (by omega) e, oC t.routes (fun r => jR t r && nJ t r) 1 hr _ (fun r hm => qFR t r (by omega) (h.each r hm)), oC t.routes mU 10 hr _ (fun r hm => qNR r (h.each r hm)), qJL t hr];unfold gM;simp only [hl];have hpb:mR t=sW t.points.length (qQ t):=by unfold mR;simp [e]
   rw [hpb];cases sW t.points.length (qQ t)<;>cases t.routes.all (λr=>jR t r&&nJ t r)<;>cases t.routes.all mU<;>cases uJ t.routes<;>rfl
  rw [if_neg (by omega),zF hl (by unfold mR;simp [e])]
 rw [if_pos (by unfold qCC at hl;simp only [decide_eq_true_eq] at hl;simp only [Bool.or_eq_true,decide_eq_true_eq];omega),qHP (by simpa using hl)]
def ltS (x y:Setting):Bool:=decide (x.el < y.el)||(decide (x.el=y.el)&&decide (x.pos < y.pos))
theorem yU {x y:Setting}:ltS x y=true↔x.el < y.el∨x.el=y.el∧x.pos < y.pos:=by simp [ltS]
theorem qEC (x:Setting):ltS x x=false:=by simp [ltS]
theorem qHH {x y z:Setting} (h1:ltS x y=true) (h2:ltS y z=true):ltS x z=true:=by rw [yU] at *; omega
theorem qSO {x y:Setting} (h1:ltS x y=true) (h2:ltS y x=true):False:=by rw [yU] at *; omega
theorem qVT {x y:Setting} (h1:x.el=y.el) (h2:x.pos=y.pos):x=y:=by
 obtain⟨a,b⟩:=x;obtain⟨c,d⟩:=y;simp_all
theorem qJJ {x y:Setting} (h1:ltS x y=false) (h2:ltS y x=false):x=y:=by
 have h1':¬ (x.el < y.el∨x.el=y.el∧x.pos < y.pos):=λh=>by rw [← yU,h1] at h;cases h
 have h2':¬ (y.el < x.el∨y.el=x.el∧y.pos < x.pos):=λh=>by rw [← yU,h2] at h;cases h
 exact qVT (by omega) (by omega)
def qEI (x:Setting):List Setting→List Setting
 | []=>[x]
 | y :: r=>if ltS x y=true then x :: y :: r else if x=y then y :: r else y :: qEI x r
def iB:List Setting→List Setting
 | []=>[]
 | x :: r=>qEI x (iB r)
abbrev Asc (l:List Setting):Prop:=l.Pairwise (λa b=>ltS a b=true)
theorem insS_mem {s x:Setting}:∀ {l},s∈qEI x l↔s=x∨s∈l
 | []=>by simp [qEI]
 | y :: r=>by
  unfold qEI;split
  ·simp
  split
  ·rename_i e;subst e;simp
  simp only [zQB,insS_mem];grind
theorem ascS_mem {s:Setting}:∀ {l},s∈iB l↔s∈l
 | []=>by simp [iB]
 | x :: r=>by simp [iB,insS_mem,ascS_mem]
theorem qMO (x:Setting):∀ l,Asc l→Asc (qEI x l)
 | [],_=>by simp [qEI]
 | y :: r,h=>by
  have h':=List.pairwise_cons.1 h;unfold qEI;split
  ·rename_i hxy;refine List.pairwise_cons.2 ⟨λb hb=>?_,h⟩;rcases zQB.1 hb with rfl|hb
   ·exact hxy
   exact qHH hxy (h'.1 b hb)
  split
  ·exact h
  rename_i h1 h2;refine List.pairwise_cons.2 ⟨λb hb=>?_,qMO x r h'.2⟩;rcases insS_mem.1 hb with rfl|hb
  ·cases h3:ltS y b with
   | true=>rfl
   | false=>exact absurd (qJJ (by simpa using h1) h3) h2
  exact h'.1 b hb
theorem qNP:∀ l,Asc (iB l)
 | []=>.nil
 | x :: r=>qMO x _ (qNP r)
theorem qFE:∀ {l m:List Setting},Asc l→Asc m→(∀ s,s∈l↔s∈m)→l=m
 | [],[],_,_,_=>rfl
 | [],y :: m,_,_,h=>absurd ((h y).2 (List.mem_cons_self ..)) (by simp)
 | x :: l,[],_,_,h=>absurd ((h x).1 (List.mem_cons_self ..)) (by simp)
 | x :: l,y :: m,h1,h2,h=>by
  have h1':=List.pairwise_cons.1 h1;have h2':=List.pairwise_cons.1 h2
  have e:x=y:=by
   rcases zQB.1 ((h x).1 (List.mem_cons_self ..)) with e|hx
   ·exact e
   rcases zQB.1 ((h y).2 (List.mem_cons_self ..)) with e|hy
   ·exact e.symm
   exact (qSO (h2'.1 x hx) (h1'.1 y hy)).elim
  subst e
  have := qFE h1'.2 h2'.2 fun s => ⟨fun hs => by
   rcases zQB.1 ((h s).1 (List.mem_cons_of_mem _ hs)) with e | h3
   ·subst e; have := h1'.1 s hs; rw [qEC] at this; cases this
   ·exact h3, fun hs => by
   rcases zQB.1 ((h s).2 (List.mem_cons_of_mem _ hs)) with e | h3
   ·subst e; have := h2'.1 s hs; rw [qEC] at this; cases this
   exact h3⟩
  rw [this]
theorem zFA {l m:List Setting} (h:Asc m) (hm:∀ s,s∈m↔s∈l):m=iB l:=qFE h (qNP l) λs=>by rw [hm,ascS_mem]
theorem pL (l:List Setting):(iB l).length≤l.length:=by
 induction l with
 | nil=>simp [iB]
 | cons x r ih=>
  have:∀ m,(qEI x m).length≤m.length+1:=by
   intro m
   induction m with
   | nil=>simp [qEI]
   | cons y q ih=>unfold qEI;split<;>(try split)<;>simp<;>omega
  have h:=this (iB r);simp only [iB,List.length_cons];omega
theorem qJK (x y:Setting):ltM dF x y=ltS x y:=by
 rw [Bool.eq_iff_iff,yU];simp only [ltM,oU,Option.getD_some,sgn,decide_eq_true_eq];split<;>split<;>(try split)<;>(try split)<;>omega
def mC (L:List Setting):Nat→List Setting
 | 0=>[]
 | i+1=>match L[i]? with
  | none=>mC L i
  | some e=>if i=0∨¬ L[i - 1]?=some e then mC L i++[e] else mC L i
theorem qHO (L:List Setting):∀ i,(mC L i).length≤i
 | 0=>zQW _
 | i+1=>by
  have:=qHO L i;unfold mC;split
  ·omega
  split
  ·simp;omega
  omega
theorem qNC (L : List Setting) (hs : L.Pairwise (fun a b => ltS b a = false)) : ∀ i, i ≤ L.length → Asc (mC L i) ∧ ∀ s, s ∈ mC L i ↔ s ∈ L.take i
 | 0,_=>⟨.nil,λs=>by simp [mC]⟩
 | i+1,hi=>by
  obtain⟨h1,h2⟩:=qNC L hs i (by omega);have he:L[i]?=some L[i]:=by simp
  rw [List.pairwise_iff_getElem] at hs;have htake:L.take (i+1)=L.take i++[L[i]]:=by rw [List.take_add_one,he];rfl
  unfold mC;rw [he];simp only;split
  ·rename_i hc;refine⟨List.pairwise_append.2 ⟨h1,by simp,λa ha b hb=>?_⟩,λs=>by rw [htake,zQN,zQN,h2]⟩;simp only [List.mem_singleton] at hb;subst hb;rcases hc with h0|hc
   ·subst h0;simp [mC] at ha
   have hi0 : i ≠ 0 := fun e => by subst e; simp [mC] at ha
   obtain⟨j,hj,rfl⟩:=List.mem_take_iff_getElem.1 ((h2 a).1 ha);have e1:L[i - 1]?=some L[i - 1]:=by rw [zQR]
   have hne:L[i - 1]≠L[i]:=λe=>hc (by rw [e1,e])
   have hlt:ltS L[i - 1] L[i]=true:=by
    cases h3:ltS L[i - 1] L[i] with
    | true=>rfl
    | false=>exact absurd (qJJ h3 (hs (i - 1) i (by omega) (by omega) (by omega))) hne
   by_cases hj':j=i - 1
   ·subst hj';exact hlt
   have h4 := hs j (i - 1) (by omega) (by omega) (by omega)
   cases h5:ltS L[j] L[i - 1] with
   | true=>exact qHH h5 hlt
   | false=>rw [qJJ h5 h4];exact hlt
  rename_i hc;refine⟨h1,λs=>?_⟩;rw [htake,zQN,h2];have hi0:i≠0:=λe=>hc (.inl e)
  have e1:L[i - 1]?=some L[i]:=by
   cases h:decide (L[i - 1]?=some L[i]) with
   | true=>exact of_decide_eq_true h
   | false=>exact absurd (.inr (of_decide_eq_false h)) hc
  have hm:L[i]∈L.take i:=List.mem_take_iff_getElem.2 ⟨i - 1,by omega,by rw [zQR (by omega)] at e1;exact Option.some.inj e1⟩;refine⟨.inl,λh=>?_⟩;rcases h with h|h
  ·exact h
  simp only [List.mem_singleton] at h;subst h;exact hm
abbrev eA (r:Route):List Setting:=r.points++r.overPoints++r.flank
theorem qPI (xss:List (List Setting)) (h:xss.length≤1000∧xss.flatten.length≤1000000000):iC xss=some xss.flatten:=aC h
theorem qKS (r:Route) (h:Short r) (ho:∀ s∈eA r,Setting.ok s):eI r=some (iB (eA r)):=by
 have hfl:[r.points,r.overPoints,r.flank].flatten=eA r:=by simp [eA]
 have hlen:(eA r).length≤6000000:=by have:=h.points;have:=h.over;have:=h.flank;simp [eA];omega
 unfold eI;rw [qPI _ ⟨by simp,by rw [hfl];omega⟩,aA,hfl,aC (by omega)];generalize hL:pV dF (eA r)=L;have hLl:L.length=(eA r).length:=by rw [← hL,sB]
 have hmem:∀ s,s∈L↔s∈eA r:=λs=>by rw [← hL];exact (sA _).mem_iff
 have hsort:L.Pairwise (λa b=>ltS b a=false):=by
  rw [← hL];have:=rZ lK (eA r);exact this.imp fun {a b} hab=>by rw [← qJK];exact hab
 obtain⟨h1,h2⟩:=qNC L hsort L.length (zQW _);have hfin:mC L L.length=iB (eA r):=zFA h1 λs=>by rw [h2,List.take_length,hmem]
 rw [jW (b:=([]:List Setting)) (o:=iB (eA r)) L.length (mC L) rfl (by omega) (λi hi=>?_) (by dsimp only;rw [if_neg (by omega),hfin];rfl)]
 ·rfl
 have he : L[i]? = some L[i] := by simp
 have hg:(mC L i++[L[i]]).length≤1000000000:=by have:=qHO L i;simp;omega
 dsimp only;rw [if_pos (by omega),aX he]
 have hcond:(if (i:Int)=0 then some true else aD (I64 ((i:Int) - 1)) (aT L ((i:Int) - 1) λe17=>aD (Setting.ok L[i]∧Setting.ok e17) (some (!decide (L[i]=e17)))))=some (decide (i=0∨¬ L[i - 1]?=some L[i])):=by
  by_cases h0:i=0
  ·subst h0;simp
  have e1 : L[i - 1]? = some L[i - 1] := by rw [zQR]
  have e2:((i:Int) - 1)=((i - 1:Nat):Int):=by omega
  rw [if_neg (by omega),aC (by unfold I64;omega),e2,aX e1,aC ⟨ho _ ((hmem _).1 (List.getElem_mem _)),ho _ ((hmem _).1 (List.getElem_mem _))⟩,e1];have e3:(L[i]=L[i - 1])=(L[i - 1]=L[i]):=propext eq_comm;simp only [Option.some.injEq,h0,false_or,e3,decide_not]
 rw [hcond,aA];have hstep:mC L (i+1)=if i=0∨¬ L[i - 1]?=some L[i] then mC L i++[L[i]] else mC L i:=by rw [mC,he]
 by_cases hc:i=0∨¬ L[i - 1]?=some L[i]
 ·rw [if_pos (by simpa using hc),aC hg,aC (bG (n:=L.length) hi (by omega)),hstep,if_pos hc]
 rw [if_neg (by simpa using hc),aC (bG (n:=L.length) hi (by omega)),hstep,if_neg hc]
theorem lF {t:Table} (h:gM t=0):qCC t=true∧mR t=true∧(∀ r∈t.routes,jR t r=true∧nJ t r=true)∧(∀ r∈t.routes,mU r=true)∧uJ t.routes=true:=by
 unfold gM at h;split at h
 ·cases h
 split at h
 ·cases h
 split at h
 ·cases h
 split at h
 ·cases h
 split at h
 ·cases h
 rename_i h1 h2 h3 h4 h5;simp only [Bool.not_eq_false] at h1 h2 h3 h4 h5;rw [zQT] at h3 h4;exact⟨h1,h2,λr hr=>by have:=h3 r hr;rwa [zQA] at this,h4,h5⟩
def SOk (t:Table):Prop:=∀ r∈t.routes,∀ s∈eA r,Setting.ok s
def rAt (t:Table) (i:Nat):Route:=(t.routes[i]?).getD default
def xAt (s:Inter) (i:Nat):RouteState:=(s.routes[i]?).getD default
structure FitsAt (t:Table) (s:Inter) (i:Nat):Prop where
 r:t.routes[i]?=some (rAt t i)
 x:s.routes[i]?=some (xAt s i)
 mem:rAt t i∈t.routes
 fits:qDO (xAt s i) (rAt t i).sections.length=true
def zCM (l:List Bool) (n:Int):Bool:=if n < 0 then true else if (l.length:Int)≤n then true else l.getD n.toNat false
end Go.Proofs.YtldaknhjmhlefaaGreatDoor
set_option linter.unusedVariables false
set_option linter.unusedSimpArgs false
set_option maxHeartbeats 400000
set_option maxRecDepth 100000
namespace Go.Proofs.YtldaknhjmhlefaaGreatDoor
open Go Go.TL
def rD (r:Route):Nat:=r.path.length+r.sections.length+r.overSections.length+r.points.length+r.overPoints.length+r.flank.length
def zS (t:Table):Bool:=t.routes.all (λr=>decide (rD r≤200))&&decide (t.routes.length≤100∧t.points.length≤100)
theorem zR {t:Table} (h:zS t=true):TOk t∧t.routes.length≤100∧t.points.length≤100∧∀ r∈t.routes,rD r≤200:=by
 unfold zS at h;simp only [zQA,decide_eq_true_eq,zQT] at h;obtain⟨h1,h2⟩:=h;refine⟨⟨by omega,by omega,λr hr=>?_⟩,h2.1,h2.2,h1⟩;have:=h1 r hr;unfold rD at this;exact⟨by omega,by omega,by omega,by omega⟩
theorem qIC {t:Table} (h:t.Wf):SOk t:=λr hr s hs=>by
 have hw:=h.routes.2 r hr;simp only [eA,zQN] at hs;rcases hs with (hs|hs)|hs
 ·have:=hw.points.2 s hs;exact⟨this.el,this.pos⟩
 ·have:=hw.overPoints.2 s hs;exact⟨this.el,this.pos⟩
 have:=hw.flank.2 s hs;exact⟨this.el,this.pos⟩
theorem fC {β:Type} {f:Nat→List β} {c:Nat} (h:∀ i,(f i).length=c) (n:Nat):((List.range n).flatMap f).length=c * n:=by
 induction n with
 | zero=>simp
 | succ n ih=>rw [List.range_succ,List.flatMap_append,zQL,ih];simp [h,Nat.mul_add]
theorem eF {β ρ:Type} (f:Nat→List β) (pre:List β) (n:Nat) {F:Int×List β→Option ((Int×List β) ⊕ ρ)} {o:ρ} (hn:n≤9223372036854775807) (hF:∀ i,i < n→F ((i:Int),pre++(List.range i).flatMap f)=some (.inl ((i:Int)+1,(pre++(List.range i).flatMap f)++f i)))
  (he:F ((n:Int),pre++(List.range n).flatMap f)=some (.inr o)):aQ F (0,pre)=some o:=by
 refine kR (λi=>((i:Int),pre++(List.range i).flatMap f)) n (by simp) hn (λi hi=>?_) he;rw [hF i hi,List.range_succ,List.flatMap_append,List.append_assoc];simp
def bA (t:Table) (el:Int):Nat:=(cW t.points el).getD 0
abbrev occB (p:Inputs) (n:Int):Bool:=zCM p.occupied n
def qWD (p:Inputs) (i:Nat):Bool:=decide (p.claimed.length≤i)||p.claimed.getD i false
def zCQ (p:Inputs) (i:Nat):Bool:=decide ((i:Int)∈p.cancels)
section
variable {r:Route} {p:Inputs} {c q l m v:Bool} {x:RouteState}
end
structure Less (n:Nat) (x y:RouteState):Prop where
 fits:qDO y n=true
 idle:x.state=0→y.state=0
 rel:y.state≠0→x.rel≤y.rel
section view
variable {t:Table} {p:Inputs} {r:Route} {x:RouteState} {c q l m:Bool}
end view
structure FreeIn (t:Table) (p:Inputs):Prop where
 occ:∀ n,0≤n→n < t.sections→occB p n=false
 claimed:∀ i,i < t.routes.length→qWD p i=false
 cancel:∀ i,i < t.routes.length→zCQ p i=true
def inN (t:Table):Nat:=2 * t.sections.toNat+2 * t.points.length+4 * t.routes.length
def qIB (r:Route):Nat:=5+r.sections.length
def dB (t:Table) (i:Nat):Nat:=inN t+t.points.length+((t.routes.take i).map qIB).sum
def kZ (t:Table) (i:Nat):List Int:=(List.range i).map λi=>(dB t i:Int)
def jM (t:Table):Nat:=dB t t.routes.length
def jE (t:Table):Nat:=jM t+5 * t.routes.length
structure COk (t:Table):Prop where
 ok:TOk t
 nr:t.routes.length≤100
 np:t.points.length≤100
 sum:∀ r∈t.routes,rD r≤200
 chk:gM t=0
theorem COk.lim {t:Table} (h:COk t):t.routes.length≤48∧t.points.length≤32∧0≤t.sections∧t.sections≤24∧0≤t.signals∧t.signals≤20:=of_decide_eq_true (lF h.chk).1
theorem COk.secs {t:Table} (h:COk t) {r:Route} (hr:r∈t.routes):0 < r.sections.length∧r.sections.length≤200:=by
 have h1:=((lF h.chk).2.2.1 r hr).1;unfold jR at h1;simp only [zQA,decide_eq_true_eq] at h1;have h2:=h.sum r hr;unfold rD at h2;exact⟨h1.1.1.1.2,by omega⟩
theorem xV (t:Table):dB t 0=inN t+t.points.length:=by unfold dB;simp
theorem mO {t:Table} {i:Nat} {r:Route} (hr:t.routes[i]?=some r):dB t (i+1)=dB t i+qIB r:=by
 unfold dB;rw [List.take_add_one,hr];simp [Nat.add_assoc]
theorem qBR (t:Table) (i:Nat):kZ t (i+1)=kZ t i++[(dB t i:Int)]:=by
 unfold kZ;rw [List.range_succ];simp
theorem qFA (t:Table) (i:Nat):(kZ t i).length=i:=by unfold kZ;simp
theorem qAZ {t:Table} {n i:Nat} (h:i < n):(kZ t n)[i]?=some (dB t i:Int):=by unfold kZ;simp [h]
theorem zAZ {l:List Route} (h:∀ r∈l,rD r≤200):(l.map qIB).sum≤205 * l.length:=by
 induction l with
 | nil=>simp
 | cons r l ih=>
  have h1:=h r (by simp);have h2:=ih (λr hr=>h r (by simp [hr]));simp only [List.map_cons,List.sum_cons,List.length_cons];unfold rD at h1;have h3:qIB r=5+r.sections.length:=rfl;omega
theorem COk.base {t:Table} (h:COk t) (i:Nat):dB t i≤30000:=by
 have h1:=zAZ (l:=t.routes.take i) (λr hr=>h.sum r (List.mem_of_mem_take hr));have h2:(t.routes.take i).length≤48:=by rw [List.length_take];have:=h.lim;omega
 have h3:=h.lim;unfold dB inN;omega
theorem qFB {t:Table}:∀ (i n:Nat),i≤n→dB t i≤dB t n:=by
 intro i n h
 induction n with
 | zero=>rw [show i=0 by omega];exact zQW _
 | succ n ih=>
  rcases Nat.lt_or_ge n i with h1|h1
  ·rw [show i=n+1 by omega];exact zQW _
  refine Nat.le_trans (ih h1) ?_
  cases e:t.routes[n]? with
  | some r=>rw [mO e];omega
  | none=>
   have:=List.getElem?_eq_none_iff.1 e;unfold dB;rw [List.take_of_length_le (by omega),List.take_of_length_le (by omega)];exact zQW _
abbrev noT:Table:=⟨[],[],[],0,0⟩
abbrev qGJ (t:Table):Numbering:=⟨t,(inN t:Int),kZ t t.routes.length,(jM t:Int),(jE t:Int)⟩
theorem qSK {t:Table} (h:TOk t) (hs:zS t=true):iW t=some (if gM t=0 then if 2000 < jE t then (⟨noT,0,[],0,0⟩,2) else (qGJ t,0) else (⟨noT,0,[],0,0⟩,gM t)):=by
 unfold iW;rw [qNF t h,aA];by_cases hz:gM t=0
 ·obtain⟨hT,h1,h2,h3⟩:=zR hs;have hC:COk t:=⟨h,h1,h2,h3,hz⟩;rw [if_pos hz,if_pos hz];have hlm:=hC.lim;have hsn:t.sections=((t.sections.toNat:Nat):Int):=by omega
  have hin:((((2:Int) * t.sections)+((2:Int) * (t.points.length:Int)))+((4:Int) * (t.routes.length:Int)))=(inN t:Int):=by unfold inN;omega
  rw [aC (by unfold I64;omega),aC (by unfold I64;omega),aC (by unfold I64;omega),aC (by unfold I64;omega),aC (by unfold I64;omega),aC (by unfold I64;omega),hin];have hb:=hC.base;rw [jW (b:=(((inN t:Int)+(t.points.length:Int)),([]:List Int))) t.routes.length (λi=>((dB t i:Int),kZ t i)) (o:=((jM t:Int),kZ t t.routes.length)) (by rw [xV];simp [kZ]) (by omega) (λi hi=>?_) (by dsimp only;rw [if_neg (by omega)];rfl),aA]
  ·dsimp only;have:=hb t.routes.length;have he:jM t=dB t t.routes.length:=rfl;rw [aC (by unfold I64;omega),aC (by unfold I64;omega)];have ha:(jM t:Int)+(5:Int) * (t.routes.length:Int)=(jE t:Int):=by unfold jE;omega
   rw [ha];by_cases hl:2000 < jE t
   ·rw [if_pos (by omega),if_pos hl]
   rw [if_neg (by omega),if_neg hl]
  dsimp only;have hr:=zQR hi;have hsec:=hC.secs (List.getElem_mem hi);have:=hb i;rw [if_pos (by omega),aC (by rw [zQL,qFA];simp;omega)];unfold bH;dsimp only;rw [aX hr,aC (by unfold I64;omega),aA,aC (by unfold I64;omega),aC (by unfold I64;omega),aC (by unfold I64;omega),aC (bG hi (by omega)),mO hr,qBR];unfold qIB;rw [show ((dB t i:Int)+((4:Int)+((t.routes[i].sections.length:Int) - 1)+2))=((dB t i+(5+t.routes[i].sections.length):Nat):Int) by omega]
 rw [if_neg hz,if_neg hz]
theorem qSF {t:Table} (h:COk t):jS t=some ⟨2 * t.sections,2 * t.sections+2 * (t.points.length:Int),(inN t:Int),(jM t:Int),(jE t:Int),kZ t t.routes.length⟩:=by
 unfold jS;have hlm:=h.lim;have hin:((((2:Int) * t.sections)+((2:Int) * (t.points.length:Int)))+((4:Int) * (t.routes.length:Int)))=(inN t:Int):=by unfold inN;omega
 rw [aC (by unfold I64;omega),aC (by unfold I64;omega),aC (by unfold I64;omega),aC (by unfold I64;omega),aC (by unfold I64;omega),aC (by unfold I64;omega),hin];have hb:=h.base;rw [kR (λi=>((dB t i:Int),((i:Int),kZ t i))) (o:=((jM t:Int),kZ t t.routes.length)) t.routes.length (by rw [xV];simp [kZ]) (by omega) (λi hi=>?_) (by dsimp only;rw [if_neg (by omega)];rfl),aA]
 ·dsimp only;have:=hb t.routes.length;have he:jM t=dB t t.routes.length:=rfl;rw [aC (by unfold I64;omega),aC (by unfold I64;omega)];have ha:(jM t:Int)+(5:Int) * (t.routes.length:Int)=(jE t:Int):=by unfold jE;omega
  rw [ha]
 dsimp only;have hr:=zQR hi;have hsec:=h.secs (List.getElem_mem hi);have:=hb i;have hm:max (0:Int) ((t.routes[i].sections.length:Int) - 1)=(t.routes[i].sections.length:Int) - 1:=by omega
 rw [if_pos (by omega),aC (by rw [zQL,qFA];simp;omega),aC (by unfold I64;omega),aX hr,aC (by unfold I64;omega),hm,aC (by unfold I64;omega),aC (bG hi (by omega)),mO hr,qBR];unfold qIB;rw [show ((dB t i:Int)+6+((t.routes[i].sections.length:Int) - 1))=((dB t i+(5+t.routes[i].sections.length):Nat):Int) by omega];rfl
theorem qEJ (t:Table):inN t+t.points.length≤jM t∧jM t≤jE t:=by
 unfold jE jM dB;omega
def bD (t:Table) (i:Nat):Nat:=match t.routes[i]? with|some r=>r.sections.length - 1|none=>0
theorem qMB {β:Type} (f:Nat→β) (i:Nat):(List.range (i+1)).map f=(List.range i).map f++[f i]:=by rw [List.range_succ];simp
abbrev vE (x:Int):Expr:=⟨3,x,[]⟩
abbrev orE (l:List Expr):Expr:=⟨6,0,l⟩
abbrev iL (l:List Expr):Expr:=⟨5,0,l⟩
abbrev gT (e:Expr):Expr:=⟨4,0,[e]⟩
abbrev bld (t:Table) (b:List Rung):Builder:=⟨qGJ t,b⟩
def qCG (t:Table) (i:Nat):Int:=2 * t.sections+2 * (t.points.length:Int)+4 * (i:Int)
def xW (t:Table) (i:Nat):Int:=(jM t:Int)+5 * (i:Int)
abbrev mE (t:Table) (i:Nat) (k:Int):Expr:=vE ((dB t i:Int)+(4+k))
abbrev iE (s:Int):Expr:=vE (2 * s)
variable {t:Table} {b:List Rung} {i:Nat}
theorem uX (hC:COk t) (hi:i < t.routes.length) {k:Int} (h0:0≤k) (h1:k≤1000):cH (qGJ t) (i:Int) k=some ((dB t i:Int)+k):=by
 have:=hC.base i;unfold cH;dsimp only;rw [aX (qAZ hi),aC (by unfold I64;omega)]
theorem nN (hC:COk t) (hi:i < t.routes.length):bH (qGJ t) (i:Int)=some (bD t i:Int)∧bD t i≤200:=by
 have hr:=zQR hi;have hsec:=hC.secs (List.getElem_mem hi);have hln:bD t i=t.routes[i].sections.length - 1:=by unfold bD;rw [hr]
 refine⟨?_,by omega⟩;unfold bH;dsimp only;rw [aX hr,aC (by unfold I64;omega),hln,show ((t.routes[i].sections.length:Int) - 1)=((t.routes[i].sections.length - 1:Nat):Int) by omega]
theorem lY (hC:COk t) (hi:i < t.routes.length) {k:Int} (h0:0≤k) (h1:k≤1000):bI (bld t b) (i:Int) k=some (vE ((dB t i:Int)+k)):=by
 unfold bI;dsimp only;rw [uX hC hi h0 h1,aA];rfl
theorem qFC (hC:COk t) (hi:i < t.routes.length) {k:Int} (h0:0≤k) (h1:k≤900):cK (bld t b) (i:Int) k=some (mE t i k):=by
 unfold cK;dsimp only;rw [aC (by unfold I64;omega),uX hC hi (by omega) (by omega),aA];rfl
theorem qFD (hC:COk t) (hi:i < t.routes.length) {k:Int} (h0:0≤k) (h1:k≤1000):bL (bld t b) (i:Int) k=some (vE (qCG t i+k)):=by
 have hlm:=hC.lim;unfold bL fX qCG;dsimp only;rw [aC (by unfold I64;omega),aC (by unfold I64;omega),aC (by unfold I64;omega),aC (by unfold I64;omega),aC (by unfold I64;omega),aC (by unfold I64;omega),aA];rfl
theorem zGG {n:Numbering} {s k:Int} (h0:0≤s) (h1:s≤1000) (hk:0≤k) (hk1:k≤10):dU n s k=some (2 * s+k):=by
 unfold dU;rw [aC (by unfold I64;omega),aC (by unfold I64;omega)]
theorem pK {B:Builder} {s:Int} (h0:0≤s) (h1:s≤1000):bP B s=some (iE s):=by
 unfold bP;rw [zGG h0 h1 (by omega) (by omega),aA,Int.add_zero];rfl
theorem nQ (hC:COk t) (hi:i < t.routes.length) {k:Int} (h0:0≤k) (h1:k≤10):aV (qGJ t) (i:Int) k=some (xW t i+k):=by
 have hlm:=hC.lim;have:jM t≤30000:=hC.base t.routes.length;unfold aV xW;dsimp only;rw [aC (by unfold I64;omega),aC (by unfold I64;omega),aC (by unfold I64;omega)]
theorem qPP (hC:COk t) (hi:i < t.routes.length):dW (qGJ t) (i:Int)=some ((dB t i:Int)+(4+(bD t i:Int))):=by
 have hl:=(nN hC hi).2;unfold dW;rw [(nN hC hi).1,aA,aC (by unfold I64;omega),uX hC hi (by omega) (by omega),aA]
theorem qRN (hC:COk t) (hi:i < t.routes.length):eG (qGJ t) (i:Int)=some ((dB t i:Int)+(4+(bD t i:Int))+1):=by
 have hl:=(nN hC hi).2;have:=hC.base i;unfold eG;rw [qPP hC hi,aA,aC (by unfold I64;omega)]
theorem COk.sec_in (hC:COk t) {r:Route} (hr:r∈t.routes) {s:Int} (hs:s∈r.sections++r.overSections):0≤s∧s < t.sections:=by
 have h1:=((lF hC.chk).2.2.1 r hr).1;unfold jR at h1;simp only [zQA] at h1;have h2:=h1.1.1.2;unfold qBD at h2;rw [allB_iff] at h2;obtain⟨j,hj⟩:=List.getElem?_of_mem hs;have h3:=h2 j (zQQ.1 hj).1;rw [sF hj] at h3;unfold inB at h3;simp only [zQA,decide_eq_true_eq] at h3;exact h3.1
theorem iU {α β ρ:Type} (l:List α) (f:Nat→α→β) (pre:List β) {F:Int×List β→Option ((Int×List β) ⊕ ρ)} {o:ρ} (hn:l.length≤9223372036854775807) (hF:∀ (i:Nat) (e:α) (B:List β),l[i]?=some e→B.length=pre.length+i→F ((i:Int),B)=some (.inl ((i:Int)+1,B++[f i e])))
  (he:F ((l.length:Int),pre++l.mapIdx f)=some (.inr o)):aQ F (0,pre)=some o:=by
 refine jW l.length (λi=>pre++(l.mapIdx f).take i) (by simp) hn (λi hi=>?_) (by rw [List.take_of_length_le (by simp)];exact he);have hx:=zQR hi;rw [hF i l[i] _ hx (by simp;omega),List.append_assoc]
 congr 4
 rw [List.take_add_one];simp [List.getElem?_mapIdx,hx]
def qHN (t:Table) (i:Nat) (r:Route):Expr:=iL (r.sections.mapIdx λx s=>if x < bD t i then orE [mE t i (x:Int),iE s] else iE s)
theorem qHS (hC:COk t) {r:Route} (hr:t.routes[i]?=some r):dS (bld t b) (i:Int)=some (qHN t i r):=by
 have hi:=(zQQ.1 hr).1;have hm:=zQM hr;have hlm:=hC.lim;have hsec:=hC.secs hm;have hl:=nN hC hi;unfold dS;dsimp only;rw [aX hr,iU r.sections (λx s=>if x < bD t i then orE [mE t i (x:Int),iE s] else iE s) [] (by omega) (λx s B hx hB=>?_) (by dsimp only;rw [if_neg (by omega)];rfl),aA]
 ·rfl
 have hx':=(zQQ.1 hx).1;have hs:=hC.sec_in hm (List.mem_append_left _ (zQM hx));simp only [List.length_nil,Nat.zero_add] at hB;dsimp only;rw [if_pos (by omega),aX hx,hl.1,aA];by_cases hlt:x < bD t i
 ·rw [if_pos (by omega),qFC hC hi (by omega) (by omega),aA,pK hs.1 (by omega),aA,if_pos hlt,show dJ ([mE t i (x:Int),iE s])=some (orE [mE t i (x:Int),iE s]) from rfl,aA,aC (by simp;omega),aC (bG hx' (by omega))]
 rw [if_neg (by omega),pK hs.1 (by omega),aA,if_neg hlt,aC (by simp;omega),aC (bG hx' (by omega))]
def atE (t:Table) (i:Nat):Expr:=if bD t i=0 then iL [] else mE t i ((bD t i:Int) - 1)
theorem b_at (hC:COk t) (hi:i < t.routes.length):eQ (bld t b) (i:Int)=some (atE t i):=by
 have hl:=nN hC hi;unfold eQ atE;rw [hl.1,aA];by_cases h0:bD t i=0
 ·rw [if_pos (by omega),if_pos h0];rfl
 rw [if_neg (by omega),if_neg h0,aA,aC (by unfold I64;omega),qFC hC hi (by omega) (by omega),aA]
def qBM (t:Table) (i:Nat) (r:Route):Int:=r.sections.getD (bD t i) 0
theorem qQW (hC:COk t) {r:Route} (hr:t.routes[i]?=some r):r.sections[bD t i]?=some (qBM t i r)∧0≤qBM t i r∧qBM t i r < t.sections:=by
 have hm:=zQM hr;have hsec:=hC.secs hm;have hln:bD t i=r.sections.length - 1:=by unfold bD;rw [hr]
 have h1:r.sections[bD t i]?=some (qBM t i r):=by
  unfold qBM;rw [zQD,zQR (by omega)];rfl
 exact⟨h1,hC.sec_in hm (List.mem_append_left _ (zQM h1))⟩
def yA (t : Table) (i : Nat) (r : Route) : List Rung := [⟨2, (dB t i : Int) + (4 + (bD t i : Int)), 12, iL [vE ((dB t i : Int) + 3), vE (qCG t i + 0), qHN t i r]⟩,
 ⟨2, (dB t i : Int) + (4 + (bD t i : Int)) + 1, 4, iL [vE ((dB t i : Int) + 2), vE (qCG t i + 0), atE t i, gT (iE (qBM t i r))]⟩]
theorem zAF (hC:COk t) {r:Route} (hr:t.routes[i]?=some r) (hb:b.length≤100000):fQ (bld t b) (i:Int)=some (bld t (b++yA t i r)):=by
 have hi:=(zQQ.1 hr).1;have hlm:=hC.lim;have hl:=nN hC hi;have hs:=qQW hC hr;unfold fQ;dsimp only;rw [aX hr,qPP hC hi,aA,lY hC hi (by omega) (by omega),aA,qFD hC hi (by omega) (by omega),aA,qHS hC hr,aA];rw [show cG [vE ((dB t i:Int)+3),vE (qCG t i+0),qHN t i r]=some (iL [vE ((dB t i:Int)+3),vE (qCG t i+0),qHN t i r]) from rfl,aA,qRN hC hi,aA];rw [lY hC hi (by omega) (by omega),aA,aA,b_at hC hi,aA,hl.1,aA,aX hs.1,pK hs.2.1 (by omega),aA];rw [show ∀ e,cP e=some (gT e) from λ_=>rfl,aA,show ∀ l,cG l=some (iL l) from λ_=>rfl,aA,aC (by simp;omega)];rfl
theorem COk.sok (hC:COk t) (ht:t.Wf) {r:Route} (hr:r∈t.routes):eI r=some (iB (eA r)):=qKS r (hC.ok.each r hr) (qIC ht r hr)
theorem jB {α β:Type} (f:α→β) (l:List α):l.mapIdx (λ_ s=>f s)=l.map f:=by
 apply List.ext_getElem?;intro n;simp [List.getElem?_mapIdx]
def pF (t:Table) (el:Int):Int:=fU (cW t.points el)
def qSD (t:Table) (x:Setting):Expr:=vE (2 * t.sections+2 * pF t x.el+if x.pos=2 then 1 else 0)
def qBI (t:Table) (r:Route):Expr:=iL ((r.sections++r.overSections).map iE++(iB (eA r)).map (qSD t))
theorem COk.set_in (hC:COk t) {r:Route} (hr:r∈t.routes) {x:Setting} (hx:x∈iB (eA r)):0≤pF t x.el∧pF t x.el < (t.points.length:Int)∧1≤x.pos∧x.pos≤2:=by
 have hx:=ascS_mem.1 hx;have h1:=((lF hC.chk).2.2.1 r hr).2;unfold nJ at h1;simp only [zQA] at h1
 have key:∀ l:List Setting,fH t l=true→x∈l→0≤pF t x.el∧pF t x.el < (t.points.length:Int)∧1≤x.pos∧x.pos≤2:=by
  intro l hl hm;obtain⟨j,hj⟩:=List.getElem?_of_mem hm;have hjl:=(zQQ.1 hj).1;unfold fH at hl;rw [allB_iff] at hl;have h3:=hl j hjl;rw [qDJ hj (zQR (by omega))] at h3;have h4:=of_decide_eq_true h3;have h5:=h4.1;obtain⟨k,hk⟩:=Option.isSome_iff_exists.1 h5;obtain⟨_,_,_,hkl⟩:=oE (l:=t.points) hk;unfold pF;rw [hk];exact⟨by simp [fU],by simp only [fU];omega,h4.2.1,h4.2.2.1⟩
 simp only [zQN] at hx;rcases hx with (hx|hx)|hx
 ·exact key _ h1.1.1 hx
 ·exact key _ h1.1.2 hx
 exact key _ h1.2 hx
theorem qNL (hC:COk t) (ht:t.Wf) {r:Route} (hr:t.routes[i]?=some r):dX (bld t b) (i:Int)=some (qBI t r):=by
 have hi:=(zQQ.1 hr).1;have hm:=zQM hr;have hlm:=hC.lim;have hsum:=hC.sum r hm;unfold rD at hsum;have hal:=pL (eA r);have hal2:(eA r).length≤200:=by simp only [eA,zQL];omega
 unfold dX;dsimp only;rw [aX hr,vV _ ⟨by simp,by simp;omega⟩,aA];have hfl:[r.sections,r.overSections].flatten=r.sections++r.overSections:=by simp
 have hcl:(r.sections++r.overSections).length≤200:=by rw [zQL];omega
 rw [hfl,iU (r.sections++r.overSections) (λ_ s=>iE s) [] (by omega) (λx s B hx hB=>?_) (by dsimp only;rw [if_neg (by omega)];rfl),aA]
 ·rw [hC.sok ht hm, aA, iU (iB (eA r)) (fun _ s => qSD t s) _ (by omega) (fun x s B hx hB => ?_) (by dsimp only; rw [if_neg (by omega)]; rfl), aA]
  ·unfold qBI;rw [jB,jB,List.nil_append];rfl
  have hx':=(zQQ.1 hx).1;have hsi:=hC.set_in hm (zQM hx);simp only [List.nil_append,List.length_mapIdx] at hB;dsimp only;rw [if_pos (by omega),aX hx,qEH,aA,lB t _ (by unfold Cnt;omega),aA];unfold gG;dsimp only;have hid:fU (cW t.points s.el)=pF t s.el:=rfl;have hk:(if s.pos=2 then (1:Int) else 0)=0∨(if s.pos=2 then (1:Int) else 0)=1:=by split<;>simp
  rw [hid,aC (by unfold I64;omega),aC (by unfold I64;omega),aC (by unfold I64;omega),aC (by unfold I64;omega),aA,show ∀ x,bZ x=some (vE x) from λ_=>rfl,aA,aC (by simp;omega),aC (bG hx' (by omega))];rfl
 have hx':=(zQQ.1 hx).1;have hs:=hC.sec_in hm (zQM hx);simp only [List.length_nil,Nat.zero_add] at hB;dsimp only;rw [if_pos (by omega),aX hx,pK hs.1 (by omega),aA,aC (by simp;omega),aC (bG hx' (by omega))]
variable {t:Table} {b:List Rung} {i:Nat}
theorem qBQ (l:List Expr):cG l=some (iL l):=rfl
theorem qCF (l:List Expr):dJ l=some (orE l):=rfl
theorem zJ (e:Expr):cP e=some (gT e):=rfl
theorem nP (x:Int):bZ x=some (vE x):=rfl
theorem uT {x:Int} {e:Expr} (hb:b.length≤100000):cC (bld t b) x e=some (bld t (b++[⟨1,x,0,e⟩])):=by
 unfold cC;dsimp only;rw [aC (by simp;omega)]
def curE (t:Table) (i:Nat) (r:Route):Expr:=orE (r.sections.mapIdx λx s=>iL (([iE s]++if 0 < x then [mE t i ((x:Int) - 1)] else [])++if x < bD t i then [gT (mE t i (x:Int))] else []))
theorem qTD (hC:COk t) {r:Route} (hr:t.routes[i]?=some r):eH (bld t b) (i:Int)=some (curE t i r):=by
 have hi:=(zQQ.1 hr).1;have hm:=zQM hr;have hlm:=hC.lim;have hsec:=hC.secs hm;have hl:=nN hC hi;unfold eH;dsimp only;rw [aX hr,iU r.sections (λx s=>iL (([iE s]++if 0 < x then [mE t i ((x:Int) - 1)] else [])++if x < bD t i then [gT (mE t i (x:Int))] else [])) [] (by omega) (λx s B hx hB=>?_) (by dsimp only;rw [if_neg (by omega)];rfl),aA]
 ·rfl
 have hx':=(zQQ.1 hx).1;have hs:=hC.sec_in hm (List.mem_append_left _ (zQM hx));simp only [List.length_nil,Nat.zero_add] at hB;dsimp only;rw [if_pos (by omega),aX hx,pK hs.1 (by omega),aA]
 have e1:(if (0:Int) < (x:Int) then aD (I64 ((x:Int) - 1)) (aB (cK (bld t b) (i:Int) ((x:Int) - 1)) λr17=>aD (([iE s]++[r17]).length≤1000000000) (some ([iE s]++[r17]))) else some [iE s])=some ([iE s]++if 0 < x then [mE t i ((x:Int) - 1)] else []):=by
  by_cases h0:0 < x
  ·rw [if_pos (by omega),aC (by unfold I64;omega),qFC hC hi (by omega) (by omega),aA,aC (by simp),if_pos h0]
  rw [if_neg (by omega),if_neg h0,List.append_nil]
 rw [e1,aA];have hl0:([iE s]++if 0 < x then [mE t i ((x:Int) - 1)] else []).length≤2:=by split<;>simp
 generalize ([iE s]++if 0 < x then [mE t i ((x:Int) - 1)] else [])=L at hl0;rw [hl.1,aA]
 have e2:(if (x:Int) < (bD t i:Int) then aB (cK (bld t b) (i:Int) (x:Int)) λr23=>aB (cP r23) λr24=>aD ((L++[r24]).length≤1000000000) (some (L++[r24])) else some L)=some (L++if x < bD t i then [gT (mE t i (x:Int))] else []):=by
  by_cases h0:x < bD t i
  ·rw [if_pos (by omega),qFC hC hi (by omega) (by omega),aA,zJ,aA,aC (by simp;omega),if_pos h0]
  rw [if_neg (by omega),if_neg h0,List.append_nil]
 rw [e2,aA,qBQ,aA,aC (by simp;omega),aC (bG hx' (by omega))]
def qKF (t:Table) (i:Nat) (r:Route):Expr:=iL [orE [vE ((dB t i:Int)+0),vE ((dB t i:Int)+1)],gT (vE (qCG t i+3)),qBI t r]
theorem qNM (hC:COk t) (ht:t.Wf) {r:Route} (hr:t.routes[i]?=some r):eP (bld t b) (i:Int)=some (qKF t i r):=by
 have hi:=(zQQ.1 hr).1;unfold eP;rw [lY hC hi (by omega) (by omega),aA,lY hC hi (by omega) (by omega),aA,qCF,aA,qFD hC hi (by omega) (by omega),aA,zJ,aA,qNL hC ht hr,aA,qBQ,aA];rfl
theorem COk.appr (hC:COk t) {r:Route} (hr:r∈t.routes):0≤r.approach∧r.approach < t.sections:=by
 have h1:=((lF hC.chk).2.2.1 r hr).1;unfold jR inB at h1;simp only [zQA,decide_eq_true_eq] at h1;exact h1.1.2
def sS (r:Route):Int:=r.sections.getD 0 0
theorem qVQ (hC:COk t) {r:Route} (hr:r∈t.routes):r.sections[0]?=some (sS r)∧0≤sS r∧sS r < t.sections:=by
 have hsec:=hC.secs hr
 have h1:r.sections[0]?=some (sS r):=by
  unfold sS;rw [zQD,zQR (by omega)];rfl
 exact⟨h1,hC.sec_in hr (List.mem_append_left _ (zQM h1))⟩
abbrev stE (t:Table) (i:Nat) (k:Int):Expr:=vE ((dB t i:Int)+k)
abbrev asE (t:Table) (i:Nat) (k:Int):Expr:=vE (qCG t i+k)
abbrev auE (t:Table) (i:Nat) (k:Int):Expr:=vE (xW t i+k)
def waitE (t:Table) (i:Nat):Expr:=vE ((dB t i:Int)+(4+(bD t i:Int)))
def standE (t:Table) (i:Nat):Expr:=vE ((dB t i:Int)+(4+(bD t i:Int))+1)
def keepE (t:Table) (i:Nat) (r:Route):Expr:=iL [stE t i 0,gT (asE t i 3),gT (qBI t r)]
def useE (t:Table) (i:Nat) (r:Route):Expr:=orE [iL [stE t i 1,gT (iE (sS r))],iL [stE t i 2,orE [gT (asE t i 0),iL [gT (iL [asE t i 3,qHN t i r]),gT (iL [atE t i,iE (qBM t i r)]),gT (standE t i)]]],iL [stE t i 3,gT (curE t i r)]]
def holdE (t:Table) (i:Nat) (r:Route):Expr:=orE [iL [stE t i 1,iE (sS r),gT (iL [asE t i 3,asE t i 0,iE r.approach]),orE [asE t i 3,gT (qBI t r)]],iL [stE t i 2,asE t i 0,asE t i 3,qHN t i r],iL [stE t i 3,curE t i r,gT (waitE t i)]]
def actE (t:Table) (i:Nat) (r:Route):Expr:=orE [auE t i 0,qKF t i r,auE t i 1,auE t i 2]
def qLU (t:Table) (i:Nat) (r:Route):List Rung:=[⟨1,xW t i+0,0,keepE t i r⟩,⟨1,xW t i+1,0,useE t i r⟩,⟨1,xW t i+2,0,holdE t i r⟩,⟨1,xW t i+3,0,actE t i r⟩]
theorem qPQ (hC:COk t) (ht:t.Wf) {r:Route} (hr:t.routes[i]?=some r) (hb:b.length≤90000):fE (bld t b) (i:Int)=some (bld t (b++qLU t i r)):=by
 have hi:=(zQQ.1 hr).1;have hm:=zQM hr;have hlm:=hC.lim;have hl:=nN hC hi;have hs:=qQW hC hr;have hf:=qVQ hC hm;have ha:=hC.appr hm;have g0:aT r.sections (0:Int)=λ(k:Int→Option Builder)=>k (sS r):=by funext k;exact aX (i:=0) hf.1
 unfold fE;dsimp only;rw [aX hr,g0,hl.1];dsimp only;rw [aA,aX hs.1]
 simp only [aA, nQ hC hi (show (0 : Int) ≤ 0 by omega) (show (0 : Int) ≤ 10 by omega), nQ hC hi (show (0 : Int) ≤ 1 by omega) (show (1 : Int) ≤ 10 by omega), nQ hC hi (show (0 : Int) ≤ 2 by omega) (show (2 : Int) ≤ 10 by omega), nQ hC hi (show (0 : Int) ≤ 3 by omega) (show (3 : Int) ≤ 10 by omega),
  lY hC hi (show (0 : Int) ≤ 0 by omega) (show (0 : Int) ≤ 1000 by omega), lY hC hi (show (0 : Int) ≤ 1 by omega) (show (1 : Int) ≤ 1000 by omega), lY hC hi (show (0 : Int) ≤ 2 by omega) (show (2 : Int) ≤ 1000 by omega), lY hC hi (show (0 : Int) ≤ 3 by omega) (show (3 : Int) ≤ 1000 by omega),
  qFD hC hi (show (0 : Int) ≤ 0 by omega) (show (0 : Int) ≤ 1000 by omega), qFD hC hi (show (0 : Int) ≤ 3 by omega) (show (3 : Int) ≤ 1000 by omega), qBQ, qCF, zJ, nP, qNL hC ht hr, qHS hC hr, b_at hC hi, qTD hC hr, qNM hC ht hr, qPP hC hi, qRN hC hi,
  pK hf.2.1 (show sS r ≤ 1000 by omega), pK hs.2.1 (show qBM t i r ≤ 1000 by omega), pK ha.1 (show r.approach ≤ 1000 by omega)]
 rw [uT (by omega),aA];dsimp only;rw [uT (by simp;omega),aA];dsimp only;rw [uT (by simp;omega),aA];dsimp only;rw [uT (by simp;omega),aA];simp only [List.append_assoc];rfl
variable {t:Table} {b:List Rung} {i:Nat}
def sE (r:Route) (k:Nat):Int:=r.sections.getD k 0
theorem qJY (hC:COk t) {r:Route} (hr:r∈t.routes) {k:Nat} (hk:k < r.sections.length):r.sections[k]?=some (sE r k)∧0≤sE r k∧sE r k < t.sections:=by
 have h1:r.sections[k]?=some (sE r k):=by
  unfold sE;rw [zQD,zQR hk];rfl
 exact⟨h1,hC.sec_in hr (List.mem_append_left _ (zQM h1))⟩
def relX (t:Table) (i:Nat) (r:Route) (k:Nat):Expr:=iL [orE [auE t i 1,auE t i 2],orE [mE t i (k:Int),iL ([stE t i 2,auE t i 1,asE t i 0,iE (sE r k),orE [gT (iE (sE r (k+1))),asE t i 1]]++if 0 < k then [mE t i ((k:Int) - 1)] else [])]]
def rG (t:Table) (i:Nat) (r:Route) (n:Nat):List Rung:=(List.range n).map λj=>⟨1,(dB t i:Int)+(4+((bD t i - 1 - j:Nat):Int)),0,relX t i r (bD t i - 1 - j)⟩
theorem zW (r:Route) (n:Nat):(rG t i r n).length=n:=by unfold rG;simp
def zQ (t:Table) (i:Nat) (r:Route):List Rung:=rG t i r (bD t i)++[⟨1,(dB t i:Int)+1,0,qKF t i r⟩,⟨1,(dB t i:Int)+2,0,auE t i 1⟩,⟨1,(dB t i:Int)+3,0,auE t i 2⟩]
theorem zEY (hC:COk t) (ht:t.Wf) {r:Route} (hr:t.routes[i]?=some r) (hb:b.length≤90000):fY (bld t b) (i:Int)=some (bld t (b++zQ t i r)):=by
 have hi:=(zQQ.1 hr).1;have hm:=zQM hr;have hlm:=hC.lim;have hl:=nN hC hi;have hsec:=hC.secs hm;have hln:bD t i=r.sections.length - 1:=by unfold bD;rw [hr]
 unfold fY;dsimp only;rw [aX hr,hl.1,aA,aC (by unfold I64;omega)];rw [kR (λj=>((bD t i:Int) - 1 - (j:Int),b++rG t i r j)) (bD t i) (o:=b++rG t i r (bD t i)) (by simp [rG]) (by omega) (λj hj=>?_) (by dsimp only;rw [if_neg (by omega)];rfl),aA]
 ·have hlen : (b ++ rG t i r (bD t i)).length ≤ 91000 := by rw [zQL, zW]; omega
  unfold zQ;rw [← List.append_assoc];generalize b++rG t i r (bD t i)=B at hlen;rw [uX hC hi (by omega) (by omega),aA,qNM hC ht hr,aA,uT (by omega),aA];dsimp only;rw [uX hC hi (by omega) (by omega),aA,nQ hC hi (by omega) (by omega),aA,nP,aA,uT (by simp;omega),aA];dsimp only;rw [uX hC hi (by omega) (by omega),aA,nQ hC hi (by omega) (by omega),aA,nP,aA,uT (by simp;omega),aA];simp only [List.append_assoc];rfl
 have hlen : (b ++ rG t i r j).length ≤ 91000 := by rw [zQL, zW]; omega
 have hstep:b++rG t i r (j+1)=(b++rG t i r j)++[⟨1,(dB t i:Int)+(4+((bD t i - 1 - j:Nat):Int)),0,relX t i r (bD t i - 1 - j)⟩]:=by
  unfold rG;rw [qMB,List.append_assoc]
 rw [hstep];generalize b++rG t i r j=B at hlen;obtain⟨k,hk⟩:∃ k:Nat,k=bD t i - 1 - j:=⟨_,rfl⟩;rw [← hk];have hkI:(bD t i:Int) - 1 - (j:Int)=(k:Int):=by omega
 have hk1:=qJY hC hm (k:=k) (by omega);have hk2:=qJY hC hm (k:=k+1) (by omega);dsimp only;rw [hkI,if_pos (by omega),lY hC hi (by omega) (by omega),aA,nQ hC hi (by omega) (by omega),aA,nP,aA,qFD hC hi (by omega) (by omega),aA,aX hk1.1,pK hk1.2.1 (by omega),aA,aC (by unfold I64;omega)];rw [show ((k:Int)+1)=((k+1:Nat):Int) by omega,aX hk2.1,pK hk2.2.1 (by omega),aA,zJ,aA,qFD hC hi (by omega) (by omega),aA,qCF,aA];generalize hL:[vE ((dB t i:Int)+2),vE (xW t i+1),vE (qCG t i+0),iE (sE r k),orE [gT (iE (sE r (k+1))),vE (qCG t i+1)]]=L;have hLl:L.length=5:=by rw [← hL];rfl
 have e1:(if (0:Int) < (k:Int) then aD (I64 ((k:Int) - 1)) (aB (cK (bld t B) (i:Int) ((k:Int) - 1)) λr29=>aD ((L++[r29]).length≤1000000000) (some (L++[r29]))) else some L)=some (L++if 0 < k then [mE t i ((k:Int) - 1)] else []):=by
  by_cases h0:0 < k
  ·rw [if_pos (by omega),aC (by unfold I64;omega),qFC hC hi (by omega) (by omega),aA,aC (by simp;omega),if_pos h0]
  rw [if_neg (by omega),if_neg h0,List.append_nil]
 rw [e1,aA,aC (by unfold I64;omega),uX hC hi (by omega) (by omega),aA,nQ hC hi (show (0:Int)≤2 by omega) (by omega),aA,nP,aA,aA,nP,aA,qCF,aA,qFC hC hi (by omega) (by omega),aA,qBQ,aA,qCF,aA,qBQ,aA,uT (by omega),aA,aC (by unfold I64;omega)];unfold relX;rw [hL,show ((k:Int) - 1)=(bD t i:Int) - 1 - ((j+1:Nat):Int) by omega]
variable {t:Table} {b:List Rung} {i:Nat}
theorem qAP {α β ρ:Type} (l:List α) (f:β→α→β) (Inv:Nat→β→Prop) {b0:β} {F:Int×β→Option ((Int×β) ⊕ ρ)} (o:β→ρ) (hn:l.length≤9223372036854775807) (h0:Inv 0 b0)
  (hs:∀ (i:Nat) (e:α) (B:β),l[i]?=some e→Inv i B→Inv (i+1) (f B e)∧F ((i:Int),B)=some (.inl ((i:Int)+1,f B e))) (he:∀ B,Inv l.length B→F ((l.length:Int),B)=some (.inr (o B))):
  aQ F (0,b0)=some (o (l.foldl f b0))∧Inv l.length (l.foldl f b0):=by
 have hI:∀ i,i≤l.length→Inv i ((l.take i).foldl f b0):=by
  intro i hi
  induction i with
  | zero=>exact h0
  | succ i ih=>
   have hx:=zQR (show i < l.length by omega);rw [List.take_add_one,hx];simp only [Option.toList_some,List.foldl_append,List.foldl_cons,List.foldl_nil];exact (hs i _ _ hx (ih (by omega))).1
 have hL:=hI l.length (zQW _);rw [List.take_length] at hL;refine⟨jW l.length (λi=>(l.take i).foldl f b0) rfl hn (λi hi=>?_) (by rw [List.take_length];exact he _ hL),hL⟩;have hx:=zQR hi;rw [(hs i _ _ hx (hI i (by omega))).2,List.take_add_one,hx];simp only [Option.toList_some,List.foldl_append,List.foldl_cons,List.foldl_nil]
abbrev Sh:=Bool×List Int
def oT (n:Nat) (x:Int) (s:Sh):Sh:=if x < 0∨x=(n:Int) then (true,s.2) else if x∈s.2 then s else (s.1,s.2++[x])
def ShOk (n k:Nat) (s:Sh):Prop:=s.2.length≤k∧∀ x∈s.2,0≤x∧x < (n:Int)
theorem ShOk.mono {n k m:Nat} {s:Sh} (h:ShOk n k s) (hk:k≤m):ShOk n m s:=⟨Nat.le_trans h.1 hk,h.2⟩
theorem ShOk.fst {n k:Nat} {s:Sh} (h:ShOk n k s) (c:Bool):ShOk n k (c,s.2):=h
theorem qDG {n k:Nat} {x:Int} {s:Sh} (h:ShOk n k s) (hx:x≤(n:Int)):ShOk n (k+1) (oT n x s):=by
 unfold oT;split
 ·exact (h.fst true).mono (by omega)
 split
 ·exact h.mono (by omega)
 rename_i h1 h2;refine⟨by have:=h.1;simp;omega,λy hy=>?_⟩;simp only [zQN,List.mem_singleton] at hy;rcases hy with hy|hy
 ·exact h.2 y hy
 subst hy;omega
theorem zAD (hC:COk t) {j:Nat} (hj:j < t.routes.length) {x:Int} {c:Bool} {l:List Int} (hl:l.length≤1000):bQ x (bld t b) (j:Int) c l=some (oT (bD t j) x (c,l)):=by
 unfold bQ oT;dsimp only;rw [(nN hC hj).1];by_cases h0:x < 0
 ·rw [if_pos h0,aA,if_pos rfl,if_pos (.inl h0)]
 rw [if_neg h0,aA,aA];by_cases h1:x=(bD t j:Int)
 ·rw [if_pos (decide_eq_true h1),if_pos (.inr h1)]
 rw [decide_eq_false h1, if_neg (by simp), if_neg (by intro hc; rcases hc with hc | hc; exact h0 hc; exact h1 hc), uR l x (by unfold Cnt; omega), aA];by_cases h2:x∈l
 ·rw [decide_eq_true h2,if_neg (by simp),if_pos h2]
 rw [decide_eq_false h2,if_pos (by simp),if_neg h2,aC (by simp;omega)]
def qOT (n:Nat) (q:Route) (f:Bool) (s:Sh) (x:Int):Sh:=
 let s1:=if 0≤fU (cW q.sections x) then oT n (fU (cW q.sections x)) s else s
 if s1.1=true then (true,s1.2) else if x∈q.overSections then (!f,s1.2) else (false,s1.2)
def qOS (n:Nat) (q:Route) (f g:Bool) (s:Sh) (x:Int):Sh:=
 let s1:=if 0≤fU (cW q.sections x)∧g=false then oT n (fU (cW q.sections x)) s else s
 if s1.1=true then (true,s1.2) else if x∈q.overSections then if f=false then (!g,s1.2) else (false,s1.2) else (false,s1.2)
theorem qEK (hC:COk t) {j:Nat} {q:Route} (hq:t.routes[j]?=some q) (x:Int):fU (cW q.sections x)≤(bD t j:Int):=by
 have hln:bD t j=q.sections.length - 1:=by unfold bD;rw [hq]
 unfold cW
 cases e:q.sections.findIdx? λy=>y == x with
 | none=>simp only [fU];omega
 | some k=>obtain⟨_,_,_,hk⟩:=oE e;simp only [fU];omega
theorem zBS (hC:COk t) {j:Nat} {q:Route} (hq:t.routes[j]?=some q) {f:Bool} {k:Nat} {s:Sh} {x:Int} (h:ShOk (bD t j) k s):ShOk (bD t j) (k+1) (qOT (bD t j) q f s x):=by
 unfold qOT
 have h1:ShOk (bD t j) (k+1) (if 0≤fU (cW q.sections x) then oT (bD t j) (fU (cW q.sections x)) s else s):=by
  split
  ·exact qDG h (qEK hC hq x)
  exact h.mono (by omega)
 dsimp only;generalize (if 0≤fU (cW q.sections x) then oT (bD t j) (fU (cW q.sections x)) s else s)=s1 at h1;split
 ·exact h1.fst _
 split
 ·exact h1.fst _
 exact h1.fst _
theorem zBR (hC:COk t) {j:Nat} {q:Route} (hq:t.routes[j]?=some q) {f g:Bool} {k:Nat} {s:Sh} {x:Int} (h:ShOk (bD t j) k s):ShOk (bD t j) (k+1) (qOS (bD t j) q f g s x):=by
 unfold qOS
 have h1:ShOk (bD t j) (k+1) (if 0≤fU (cW q.sections x)∧g=false then oT (bD t j) (fU (cW q.sections x)) s else s):=by
  split
  ·exact qDG h (qEK hC hq x)
  exact h.mono (by omega)
 dsimp only;generalize (if 0≤fU (cW q.sections x)∧g=false then oT (bD t j) (fU (cW q.sections x)) s else s)=s1 at h1;split
 ·exact h1.fst _
 split
 ·split
  ·exact h1.fst _
  exact h1.fst _
 exact h1.fst _
theorem shA_eq (hC : COk t) {j : Nat} {r q : Route} (hr : r ∈ t.routes) (hq : t.routes[j]? = some q) (f : Bool) {s0 : Sh} {k0 : Nat} (h0 : ShOk (bD t j) k0 s0) (hk : k0 ≤ 100) : aQ (fun ((x12 : Int), (c13 : Bool), (b14 : List Int)) =>
   if x12 < (r.sections.length : Int) then
    aT r.sections x12 fun e17 =>
    aB (
     aB (dC q.sections e17) fun r21 =>
     if (0 : Int) ≤ r21 then
      aB (bQ r21 (bld t b) (j : Int) c13 b14) fun (r24, r25) =>
      some (r24, r25)
     else
      some (c13, b14)) fun (c18, b19) =>
    if c18 = true then
     aD (I64 (x12 + (1 : Int))) <|
     some (.inl ((x12 + (1 : Int)), true, b19))
    else
     aB (dR q.overSections e17) fun r27 =>
     if r27 = true then
      aD (I64 (x12 + (1 : Int))) <|
      some (.inl ((x12 + (1 : Int)), !(f), b19))
     else
      aD (I64 (x12 + (1 : Int))) <|
      some (.inl ((x12 + (1 : Int)), false, b19))
   else
    aI (
     some (c13, b14))) ((0 : Int), s0) = some (r.sections.foldl (qOT (bD t j) q f) s0) ∧ ShOk (bD t j) (k0 + r.sections.length) (r.sections.foldl (qOT (bD t j) q f) s0) := by
 have hj:=(zQQ.1 hq).1;have hqm:=zQM hq;have hsum:=hC.sum r hr;have hsumq:=hC.sum q hqm;unfold rD at hsum hsumq;refine qAP r.sections (qOT (bD t j) q f) (λi s=>ShOk (bD t j) (k0+i) s) (λs=>s) (by omega) h0 (λx e s hx hs=>⟨zBS hC hq hs,?_⟩) (λs _=>by obtain⟨c,l⟩:=s;dsimp only;rw [if_neg (by omega)];rfl);obtain⟨c,l⟩:=s;have hx':=(zQQ.1 hx).1;have hl:l.length≤1000:=by have:=hs.1;dsimp only at this;omega
 dsimp only;rw [if_pos (by omega),aX hx,nF _ _ (by unfold Cnt;omega),aA]
 have e1:(if (0:Int)≤fU (cW q.sections e) then aB (bQ (fU (cW q.sections e)) (bld t b) (j:Int) c l) λ(r24,r25)=>some (r24,r25) else some (c,l))=some (if 0≤fU (cW q.sections e) then oT (bD t j) (fU (cW q.sections e)) (c,l) else (c,l)):=by
  split
  ·rw [zAD hC hj hl,aA]
  rfl
 rw [e1,aA];unfold qOT;dsimp only;generalize (if 0≤fU (cW q.sections e) then oT (bD t j) (fU (cW q.sections e)) (c,l) else (c,l))=s1;obtain⟨c1,l1⟩:=s1;dsimp only;cases c1
 ·rw [if_neg (by simp), if_neg (by simp), uR _ _ (by unfold Cnt; omega), aA];by_cases hm:e∈q.overSections
  ·rw [decide_eq_true hm,if_pos rfl,if_pos hm,aC (bG hx' (by omega))]
  rw [decide_eq_false hm,if_neg (by simp),if_neg hm,aC (bG hx' (by omega))]
 rw [if_pos rfl,if_pos rfl,aC (bG hx' (by omega))]
theorem shB_eq (hC : COk t) {j : Nat} {r q : Route} (hr : r ∈ t.routes) (hq : t.routes[j]? = some q) (f g : Bool) {s0 : Sh} {k0 : Nat} (h0 : ShOk (bD t j) k0 s0) (hk : k0 ≤ 400) : aQ (fun ((x40 : Int), (c41 : Bool), (b42 : List Int)) =>
   if x40 < (r.overSections.length : Int) then
    aT r.overSections x40 fun e45 =>
    aB (
     aB (dC q.sections e45) fun r49 =>
     if ((decide ((0 : Int) ≤ r49)) && (!(g))) = true then
      aB (bQ r49 (bld t b) (j : Int) c41 b42) fun (r53, r54) =>
      some (r53, r54)
     else
      some (c41, b42)) fun (c46, b47) =>
    if c46 = true then
     aD (I64 (x40 + (1 : Int))) <|
     some (.inl ((x40 + (1 : Int)), true, b47))
    else
     aB (dR q.overSections e45) fun r56 =>
     if r56 = true then
      if (!(f)) = true then
       aD (I64 (x40 + (1 : Int))) <|
       some (.inl ((x40 + (1 : Int)), !(g), b47))
      else
       aD (I64 (x40 + (1 : Int))) <|
       some (.inl ((x40 + (1 : Int)), false, b47))
     else
      aD (I64 (x40 + (1 : Int))) <|
      some (.inl ((x40 + (1 : Int)), false, b47))
   else
    aI (
     some (c41, b42))) ((0 : Int), s0) = some (r.overSections.foldl (qOS (bD t j) q f g) s0) ∧ ShOk (bD t j) (k0 + r.overSections.length) (r.overSections.foldl (qOS (bD t j) q f g) s0) := by
 have hj:=(zQQ.1 hq).1;have hqm:=zQM hq;have hsum:=hC.sum r hr;have hsumq:=hC.sum q hqm;unfold rD at hsum hsumq;refine qAP r.overSections (qOS (bD t j) q f g) (λi s=>ShOk (bD t j) (k0+i) s) (λs=>s) (by omega) h0 (λx e s hx hs=>⟨zBR hC hq hs,?_⟩) (λs _=>by obtain⟨c,l⟩:=s;dsimp only;rw [if_neg (by omega)];rfl);obtain⟨c,l⟩:=s;have hx':=(zQQ.1 hx).1;have hl:l.length≤1000:=by have:=hs.1;dsimp only at this;omega
 dsimp only;rw [if_pos (by omega),aX hx,nF _ _ (by unfold Cnt;omega),aA]
 have e1:(if ((decide ((0:Int)≤fU (cW q.sections e)))&&(!(g)))=true then aB (bQ (fU (cW q.sections e)) (bld t b) (j:Int) c l) λ(r24,r25)=>some (r24,r25) else some (c,l))=some (if 0≤fU (cW q.sections e)∧g=false then oT (bD t j) (fU (cW q.sections e)) (c,l) else (c,l)):=by
  by_cases h:0≤fU (cW q.sections e)∧g=false
  ·rw [if_pos (by simp [h.1,h.2]),if_pos h,zAD hC hj hl,aA]
  rw [if_neg (by simpa using h),if_neg h]
 rw [e1,aA];unfold qOS;dsimp only;generalize (if 0≤fU (cW q.sections e)∧g=false then oT (bD t j) (fU (cW q.sections e)) (c,l) else (c,l))=s1;obtain⟨c1,l1⟩:=s1;dsimp only;cases c1
 ·rw [if_neg Bool.false_ne_true, if_neg Bool.false_ne_true, uR _ _ (by unfold Cnt; omega), aA];by_cases hm:e∈q.overSections
  ·rw [decide_eq_true hm,if_pos rfl,if_pos hm];cases f
   ·simp only [Bool.not_false,if_true];rw [aC (bG hx' (by omega))]
   simp only [Bool.not_true,Bool.false_eq_true,Bool.true_eq_false,if_false];rw [aC (bG hx' (by omega))]
  rw [decide_eq_false hm,if_neg Bool.false_ne_true,if_neg hm,aC (bG hx' (by omega))]
 rw [if_pos rfl,if_pos rfl,aC (bG hx' (by omega))]
variable {t:Table} {b:List Rung} {i:Nat}
theorem qRX (l:List Setting) (x:Setting) (h:Cnt l) (hx:Setting.ok x) (ho:∀ s∈l,Setting.ok s):gI l x=some (fU (l.findIdx? λy=>decide (x=y))):=by
 unfold gI;rw [vO l (λy=>decide (x=y)) (λi=>.inr (i:Int)) (.inl ()) h (λk e he=>?_) (by rw [if_neg (by omega)];rfl)]
 ·cases l.findIdx? λy=>decide (x=y)<;>rfl
 have hi:=(zQQ.1 he).1;rw [if_pos (by omega),aX he,aC ⟨hx,ho e (zQM he)⟩];by_cases hz:x=e
 ·rw [if_pos hz,if_pos (decide_eq_true hz)];rfl
 rw [if_neg hz,aC (bG hi h),if_neg (by simpa using hz)]
theorem lM (l:List Setting) (x:Setting) (h:Cnt l) (hx:Setting.ok x) (ho:∀ s∈l,Setting.ok s):cA l x=some (decide (x∈l)):=by
 unfold cA;rw [qRX l x h hx ho,aA,qHL,List.findIdx?_isSome]
 congr 1
 rw [Bool.eq_iff_iff,zQU];simp
def wU (t:Table) (el:Int):Int:=t.homes.getD (pF t el).toNat 0
theorem COk.home (hC:COk t) {r:Route} (hr:r∈t.routes) {x:Setting} (hx:x∈iB (eA r)):∃ k:Nat,pF t x.el=(k:Int)∧k < t.points.length∧t.homes[k]?=some (wU t x.el)∧0≤wU t x.el∧wU t x.el < t.sections:=by
 have h1:=hC.set_in hr hx;have hp:=(lF hC.chk).2.1;unfold mR at hp;simp only [zQA,decide_eq_true_eq] at hp;obtain⟨k,hk⟩:∃ k:Nat,pF t x.el=(k:Int):=⟨(pF t x.el).toNat,by omega⟩;have hkl:k < t.points.length:=by omega
 have h2:t.homes[k]?=some (wU t x.el):=by
  unfold wU;rw [hk,zQD,show ((k:Int)).toNat=k by omega,zQR (by omega)];rfl
 have h3:=allB_iff.1 hp.2 k hkl;rw [qAI (zQR hkl) (zQR (show k - 1 < t.points.length by omega)) h2] at h3;have h4:=of_decide_eq_true h3;exact⟨k,hk,hkl,h2,h4.2.2.1,h4.2.2.2⟩
def qAK (x:Setting):Setting:=⟨x.el,3 - x.pos⟩
def qOR (t:Table) (n:Nat) (q:Route) (s:Sh) (x:Setting):Sh:=
 if qAK x∈q.overPoints∨qAK x∈q.flank then (true,s.2) else if qAK x∈q.points then oT n (fU (cW q.sections (wU t x.el))) s else s
theorem zBQ (hC:COk t) {j:Nat} {q:Route} (hq:t.routes[j]?=some q) {k:Nat} {s:Sh} {x:Setting} (h:ShOk (bD t j) k s):ShOk (bD t j) (k+1) (qOR t (bD t j) q s x):=by
 unfold qOR;split
 ·exact (h.fst _).mono (by omega)
 split
 ·exact qDG h (qEK hC hq _)
 exact h.mono (by omega)
theorem shC_eq (hC : COk t) (ht : t.Wf) {j : Nat} {r q : Route} (hr : r ∈ t.routes) (hq : t.routes[j]? = some q) {s0 : Sh} {k0 : Nat} (h0 : ShOk (bD t j) k0 s0) (hk : k0 ≤ 700) : aQ (fun ((x72 : Int), (c73 : Bool), (b74 : List Int)) =>
   if x72 < ((iB (eA r)).length : Int) then
    aT (iB (eA r)) x72 fun e77 =>
    aD (I64 ((3 : Int) - e77.pos)) <|
    aB (
     aB (cA q.overPoints (⟨e77.el, ((3 : Int) - e77.pos)⟩ : Setting)) fun r81 =>
     if r81 = true then
      some true
     else
      aB (cA q.flank (⟨e77.el, ((3 : Int) - e77.pos)⟩ : Setting)) fun r83 =>
      some r83) fun x79 =>
    if x79 = true then
     aD (I64 (x72 + (1 : Int))) <|
     some (.inl ((x72 + (1 : Int)), true, b74))
    else
     aB (cA q.points (⟨e77.el, ((3 : Int) - e77.pos)⟩ : Setting)) fun r86 =>
     if r86 = true then
      aB (fF t e77.el) fun r88 =>
      aT t.homes r88 fun e89 =>
      aB (dC q.sections e89) fun r90 =>
      aB (bQ r90 (bld t b) (j : Int) c73 b74) fun (r92, r93) =>
      aD (I64 (x72 + (1 : Int))) <|
      some (.inl ((x72 + (1 : Int)), r92, r93))
     else
      aD (I64 (x72 + (1 : Int))) <|
      some (.inl ((x72 + (1 : Int)), c73, b74))
   else
    aI (
     some (c73, b74))) ((0 : Int), s0) = some ((iB (eA r)).foldl (qOR t (bD t j) q) s0) ∧ ShOk (bD t j) (k0 + (iB (eA r)).length) ((iB (eA r)).foldl (qOR t (bD t j) q) s0) := by
 have hj:=(zQQ.1 hq).1;have hqm:=zQM hq;have hsum:=hC.sum r hr;have hsumq:=hC.sum q hqm;unfold rD at hsum hsumq;have hal:=pL (eA r);have hal2:(eA r).length≤200:=by simp only [eA,zQL];omega
 have hlm:=hC.lim;have hso:=qIC ht q hqm;refine qAP (iB (eA r)) (qOR t (bD t j) q) (λi s=>ShOk (bD t j) (k0+i) s) (λs=>s) (by omega) h0 (λx e s hx hs=>⟨zBQ hC hq hs,?_⟩) (λs _=>by obtain⟨c,l⟩:=s;dsimp only;rw [if_neg (by omega)];rfl);obtain⟨c,l⟩:=s;have hx':=(zQQ.1 hx).1;have hxm:=zQM hx;have hsi:=hC.set_in hr hxm;obtain⟨k,hk1,hk2,hk3,hk4,hk5⟩:=hC.home hr hxm;have hl:l.length≤1000:=by have:=hs.1;dsimp only at this;omega
 have heo:Setting.ok e:=qIC ht r hr e (ascS_mem.1 hxm);have hoo:Setting.ok (qAK e):=⟨heo.1,by show I64 (3 - e.pos);unfold I64;omega⟩;have hop:(⟨e.el,(3:Int) - e.pos⟩:Setting)=qAK e:=rfl;have o1:∀ s∈q.overPoints,Setting.ok s:=λs hs=>hso s (by simp [eA,hs]);have o2:∀ s∈q.flank,Setting.ok s:=λs hs=>hso s (by simp [eA,hs]);have o3:∀ s∈q.points,Setting.ok s:=λs hs=>hso s (by simp [eA,hs]);dsimp only;rw [if_pos (by omega),aX hx,aC (by unfold I64;omega),hop,lM _ _ (by unfold Cnt;omega) hoo o1,aA,lM _ _ (by unfold Cnt;omega) hoo o2,aA];unfold qOR;dsimp only
 have e1:(if decide (qAK e∈q.overPoints)=true then some true else some (decide (qAK e∈q.flank)))=some (decide (qAK e∈q.overPoints∨qAK e∈q.flank)):=by
  by_cases h:qAK e∈q.overPoints
  ·rw [if_pos (decide_eq_true h),decide_eq_true (Or.inl h)]
  rw [if_neg (by simpa using h)]
  congr 1
  rw [Bool.eq_iff_iff];simp [h]
 rw [e1,aA];by_cases hc:qAK e∈q.overPoints∨qAK e∈q.flank
 ·rw [if_pos (decide_eq_true hc),if_pos hc,aC (bG hx' (by omega))]
 rw [if_neg (by rw [decide_eq_false hc]; exact Bool.false_ne_true), if_neg hc, lM _ _ (by unfold Cnt; omega) hoo o3, aA];by_cases hd:qAK e∈q.points
 ·have hid:fU (cW t.points e.el)=(k:Int):=hk1;rw [if_pos (decide_eq_true hd),if_pos hd,lB t _ (by unfold Cnt;omega),aA,hid,aX hk3,nF _ _ (by unfold Cnt;omega),aA,zAD hC hj hl,aA,aC (bG hx' (by omega))]
 rw [if_neg (by rw [decide_eq_false hd];exact Bool.false_ne_true),if_neg hd,aC (bG hx' (by omega))]
def rP (r q:Route):Bool:=(decide ((0:Int)≤r.exit))&&(decide (q.entry=r.exit))
def vH (t:Table) (j:Nat) (r q:Route):Sh:=
 (iB (eA r)).foldl (qOR t (bD t j) q) (r.overSections.foldl (qOS (bD t j) q (rP q r) (rP r q)) (r.sections.foldl (qOT (bD t j) q (rP q r)) (false,[])))
theorem qRU (hC:COk t) (ht:t.Wf) {j:Nat} {r q:Route} (hr:t.routes[i]?=some r) (hq:t.routes[j]?=some q):fR (bld t b) (i:Int) (j:Int)=some (vH t j r q)∧ShOk (bD t j) 200 (vH t j r q):=by
 have hrm:=zQM hr;have hsum:=hC.sum r hrm;unfold rD at hsum;have hal:=pL (eA r);have hal2:(eA r).length=r.points.length+r.overPoints.length+r.flank.length:=by simp only [eA,zQL]
 have hA:=shA_eq (b:=b) hC hrm hq (rP q r) (s0:=(false,[])) (k0:=0) ⟨by simp,by simp⟩ (by omega);have hB:=shB_eq (b:=b) hC hrm hq (rP q r) (rP r q) hA.2 (by omega);have hD:=shC_eq (b:=b) hC ht hrm hq hB.2 (by omega);refine⟨?_,hD.2.mono (by omega)⟩;unfold fR;dsimp only;rw [aX hr,aX hq];rw [show eO q r=some (rP q r) from rfl,aA,show eO r q=some (rP r q) from rfl,aA];rw [hA.1,aA,hB.1,aA,hC.sok ht hrm,aA,hD.1,aA];rfl
theorem mK {α:Type} {l:List α}:l.Nodup↔∀ a c,a < c→c < l.length→l[a]?≠l[c]?:=by
 unfold List.Nodup;rw [List.pairwise_iff_getElem];constructor
 ·intro h a c hac hc he;rw [zQR hc,zQR (show a < l.length by omega)] at he;exact h a c (by omega) hc hac (Option.some.inj he)
 intro h a c ha hc hac he;refine h a c hac hc ?_;rw [zQR hc,zQR ha,he]
theorem Expr.eta (e:Expr):(⟨e.op,e.var,e.args⟩:Expr)=e:=by cases e;rfl
def opB (v:List Bool) (op x:Int) (bs:List Bool):Bool:=
 if op=3 then decide (0≤x)&&v.getD x.toNat false
 else if op=4 then (match bs with|[]=>false|b :: _=>!b)
 else if op=5 then bs.all id
 else if op=6 then bs.any id
 else decide (op=2)
mutual
def evE (v:List Bool):Expr→Bool
 | ⟨op,x,l⟩=>opB v op x (evL v l)
def evL (v:List Bool):List Expr→List Bool
 | []=>[]
 | e :: r=>evE v e :: evL v r
end
mutual
def dpE:Expr→Nat
 | ⟨_,_,l⟩=>dpL l+1
def dpL:List Expr→Nat
 | []=>0
 | e :: r=>max (dpE e) (dpL r)
end
mutual
def szE:Expr→Nat
 | ⟨_,_,l⟩=>szL l+1
def szL:List Expr→Nat
 | []=>0
 | e :: r=>szE e+szL r
end
abbrev qJI:Nat:=9223372036854775807
mutual
def okE:Expr→Prop
 | ⟨_,_,l⟩=>l.length≤qJI∧okL l
def okL:List Expr→Prop
 | []=>True
 | e :: r=>okE e∧okL r
end
theorem qRE (v:List Bool):∀ l,evL v l=l.map (evE v)
 | []=>by simp [evL]
 | e :: r=>by simp [evL,qRE v r]
theorem qER (v:List Bool) (e:Expr):evE v e=opB v e.op e.var (e.args.map (evE v)):=by
 cases e with
 | mk a b c=>rw [evE,qRE]
theorem dpL_le {d:Nat}:∀ {l:List Expr},dpL l≤d↔∀ e∈l,dpE e≤d
 | []=>by simp [dpL]
 | e :: r=>by rw [dpL,Nat.max_le,dpL_le (l:=r)];simp
theorem qVY (e:Expr):dpE e=dpL e.args+1:=by
 cases e with
 | mk a b c=>rw [dpE]
theorem qTW (e:Expr):szE e=szL e.args+1:=by
 cases e with
 | mk a b c=>rw [szE]
theorem qQR:∀ {l:List Expr},okL l↔∀ e∈l,okE e
 | []=>by simp [okL]
 | e :: r=>by rw [okL,qQR (l:=r)];simp
theorem okE_iff {e:Expr}:okE e↔e.args.length≤qJI∧∀ x∈e.args,okE x:=by
 cases e with
 | mk a b c=>rw [okE,qQR]
theorem zBT (e:Expr):nH e=some ⟨if e.op=3 then 200 else if e.op=4 then (if 0 < e.args.length then 201 else 232) else if e.op=5 then 202 else if e.op=6 then 203 else 232,e⟩:=by
 unfold nH;by_cases h3:e.op=3
 ·rw [if_pos h3,if_pos h3]
 rw [if_neg h3,if_neg h3];by_cases h4:e.op=4
 ·rw [if_pos h4,if_pos h4];by_cases h:0 < e.args.length
  ·rw [if_pos (by omega),if_pos h]
  rw [if_neg (by omega),if_neg h]
 rw [if_neg h4,if_neg h4];by_cases h5:e.op=5
 ·rw [if_pos h5,if_pos h5]
 rw [if_neg h5,if_neg h5];by_cases h6:e.op=6
 ·rw [if_pos h6,if_pos h6]
 rw [if_neg h6,if_neg h6]
theorem qHM (v:List Bool):∀ (fu:Nat) (e:Expr),dpE e≤fu→okE e→hU fu e v=some (evE v e)
 | 0,e,h,_=>by rw [qVY] at h;omega
 | fu+1,e,h,ho=>by
  rw [qVY] at h;have hd:∀ x∈e.args,dpE x≤fu:=dpL_le.1 (by omega);obtain⟨hl,hox⟩:=okE_iff.1 ho;unfold qJI at hl;have ih:∀ x∈e.args,hU fu x v=some (evE v x):=λx hx=>qHM v fu x (hd x hx) (hox x hx);rw [qER];unfold hU opB;rw [zBT,aA];dsimp only;by_cases h3:e.op=3
  ·rw [if_pos h3,if_pos rfl,if_pos h3];by_cases h0:0≤e.var
   ·rw [if_pos h0,decide_eq_true h0,Bool.true_and];by_cases h1:e.var < (v.length:Int)
    ·have hx : v[e.var.toNat]? = some v[e.var.toNat] := zQR (by omega);rw [if_pos h1,qMT h0 hx,aA,zQD,hx];rfl
    rw [if_neg h1, aA, zQD, List.getElem?_eq_none (by omega)];rfl
   rw [if_neg h0,decide_eq_false h0,Bool.false_and];rfl
  rw [if_neg h3,if_neg h3];by_cases h4:e.op=4
  ·rw [if_pos h4,if_pos h4];by_cases hz:0 < e.args.length
   ·rw [if_pos hz, if_neg (by decide), if_pos rfl];have hx:e.args[0]?=some e.args[0]:=zQR hz;rw [show (0:Int)=((0:Nat):Int) from rfl,aX hx,ih _ (List.getElem_mem hz),aA,fT,qHR]
    cases e with
    | mk a b c=>
     cases c with
     | nil=>simp at hz
     | cons y r=>rfl
   rw [if_neg hz, if_neg (by decide), if_neg (by decide), if_neg (by decide), if_neg (by decide), oK, decide_eq_false (by omega)]
   cases e with
   | mk a b c=>
    cases c with
    | nil=>rfl
    | cons y r=>simp at hz
  rw [if_neg h4,if_neg h4];by_cases h5:e.op=5
  ·rw [if_pos h5, if_pos h5, if_neg (by decide), if_neg (by decide), if_pos rfl];rw [lT e.args (λx=>!evE v x) (.inr (.inr false)) (.inl ()) hl (λi x hx=>?_) (by rw [if_neg (by omega)];rfl)]
   ·cases ha:(e.args.map (evE v)).all id with
    | true=>
     rw [if_neg (by
      rw [zQU];rintro ⟨x, hx, hc⟩;rw [zQT] at ha;have := ha _ (List.mem_map_of_mem hx);simp only [id] at this;rw [this] at hc
      cases hc)]
     rfl
    | false=>
     rw [if_pos (by
      rw [zQU];rw [List.all_eq_false] at ha;obtain ⟨y, hy, hc⟩ := ha;obtain ⟨x, hx, rfl⟩ := List.mem_map.1 hy
      exact ⟨x, hx, by simpa using hc⟩)]
     rfl
   have hi:=(zQQ.1 hx).1;rw [if_pos (by omega),aX hx,ih x (zQM hx),aA,aC (bG hi hl)];cases evE v x<;>simp
  rw [if_neg h5,if_neg h5];by_cases h6:e.op=6
  ·rw [if_pos h6, if_pos h6, if_neg (by decide), if_neg (by decide), if_neg (by decide), if_pos rfl];rw [lT e.args (λx=>evE v x) (.inr (.inr true)) (.inl ()) hl (λi x hx=>?_) (by rw [if_neg (by omega)];rfl)]
   ·rw [List.any_map,show (id ∘ evE v)=evE v from rfl];show cR (cR (some (if e.args.any (evE v)=true then Sum.inr (Sum.inr true) else Sum.inl ())) _) _=_;cases e.args.any (evE v)
    ·rw [if_neg (by simp)];rfl
    rw [if_pos rfl];rfl
   have hi:=(zQQ.1 hx).1;rw [if_pos (by omega),aX hx,ih x (zQM hx),aA,aC (bG hi hl)];cases evE v x<;>simp
  rw [if_neg h6,if_neg h6,if_neg (by decide),if_neg (by decide),if_neg (by decide),if_neg (by decide),oK]
theorem zFH {e:Expr} (v:List Bool) (hd:dpE e≤eU) (ho:okE e):rQ e v=some (evE v e):=by
 unfold rQ qAU;rw [qHM v eU e hd ho,aA]
def qMV (n:Int) (op x:Int) (k:Nat):Bool:=
 if op=1∨op=2 then decide (x=0∧k=0)
 else if op=3 then decide (0≤x∧x < n∧k=0)
 else if op=4 then decide (k=1∧x=0)
 else if op=5∨op=6 then decide (x=0)
 else false
mutual
def qEL (n:Int):Expr→Bool
 | ⟨op,x,l⟩=>qMV n op x l.length&&qBO n l
def qBO (n:Int):List Expr→Bool
 | []=>true
 | e :: r=>qEL n e&&qBO n r
end
theorem goodL_iff {n:Int}:∀ {l:List Expr},qBO n l=true↔∀ e∈l,qEL n e=true
 | []=>by simp [qBO]
 | e :: r=>by rw [qBO,zQA,goodL_iff (l:=r)];simp
def ValE (n:Int) (d left:Int) (e:Expr):Prop:=qEL n e=true∧d+(dpE e:Int)≤13∧(szE e:Int)≤left
instance (n d left:Int) (e:Expr):Decidable (ValE n d left e):=by unfold ValE;infer_instance
theorem zBY {σ ρ:Type} {f:σ→Option (σ ⊕ ρ)} (P:ρ→Prop) (I:Nat→σ→Prop) {s:σ} (n:Nat) (hn:n≤qJI) (h0:I 0 s) (hs:∀ i,i < n→∀ s,I i s→(∃ s',f s=some (.inl s')∧I (i+1) s')∨(∃ o,f s=some (.inr o)∧P o)) (he:∀ s,I n s→∃ o,f s=some (.inr o)∧P o):∃ o,aQ f s=some o∧P o:=by
 suffices h:∀ k i s,i+k=n→I i s→∃ o,mB f (k+1) s=some o∧P o by
  obtain⟨o,h1,h2⟩:=h n 0 s (by omega) h0;exact⟨o,uK h1 (by unfold eU qJI at *; omega),h2⟩
 intro k
 induction k with
 | zero=>
  intro i s hi hI;obtain⟨o,h1,h2⟩:=he s (by rw [show n=i by omega];exact hI);exact⟨o,by simp [mB,h1],h2⟩
 | succ k ih=>
  intro i s hi hI;rcases hs i (by omega) s hI with ⟨s',h1,h2⟩|⟨o,h1,h2⟩
  ·obtain ⟨o, h3, h4⟩ := ih (i + 1) s' (by omega) h2;exact⟨o,by rw [mB,h1];exact h3,h4⟩
  exact⟨o,by rw [mB,h1],h2⟩
variable {t:Table} {b:List Rung} {i:Nat}
def qTJ (t:Table) (i j:Nat):Expr:=if j < i then orE [auE t j 3,auE t j 4] else auE t j 3
def xX (t:Table) (i j:Nat) (r q:Route):List Expr:=
 if (vH t j r q).1=true then [gT (qTJ t i j)] else if (vH t j r q).2.length=0 then [] else [orE ([gT (qTJ t i j)]++[iL ((vH t j r q).2.map (mE t j))])]
theorem qFG (i j:Nat) (r q:Route):(xX t i j r q).length≤1:=by
 unfold xX;split
 ·simp
 split
 ·simp
 simp
theorem zEZ (hC:COk t) (ht:t.Wf) {j:Nat} {r q:Route} (hr:t.routes[i]?=some r) (hq:t.routes[j]?=some q):fZ (bld t b) (i:Int) (j:Int)=some (xX t i j r q):=by
 have hi:=(zQQ.1 hr).1;have hj:=(zQQ.1 hq).1;have hsh:=qRU (b:=b) hC ht hr hq;have hl:=(nN hC hj).2;unfold fZ xX;rw [hsh.1,aA];have hk:=hsh.2;generalize vH t j r q=S at hk;obtain⟨w,l⟩:=S;dsimp only at hk ⊢;rw [nQ hC hj (show (0:Int)≤3 by omega) (show (3:Int)≤10 by omega),aA,nP,aA]
 have e1:(if (j:Int) < (i:Int) then aB (aV (qGJ t) (j:Int) (4:Int)) λr11=>aB (bZ r11) λr12=>aB (dJ ([vE (xW t j+3),r12]:List Expr)) λr13=>some (r13.op,r13.var,r13.args) else some ((vE (xW t j+3)).op,(vE (xW t j+3)).var,(vE (xW t j+3)).args))=some ((qTJ t i j).op,(qTJ t i j).var,(qTJ t i j).args):=by
  unfold qTJ;by_cases h:j < i
  ·rw [if_pos (by omega),if_pos h,nQ hC hj (by omega) (by omega),aA,nP,aA,qCF,aA]
  rw [if_neg (by omega),if_neg h]
 rw [e1,aA];dsimp only;cases w
 ·rw [if_neg Bool.false_ne_true,if_neg Bool.false_ne_true];by_cases h0:l.length=0
  ·rw [if_pos (by omega),if_pos h0]
  rw [if_neg (by omega), if_neg h0, zJ, aA, iU l (fun _ x => mE t j x) [] (by have := hk.1; dsimp only at this; omega) (fun x e B hx hB => ?_) (by dsimp only; rw [if_neg (by omega)]; rfl), aA, jB, List.nil_append, qBQ, aA, aC (by simp), qCF, aA, Expr.eta];have hx':=(zQQ.1 hx).1;have hb:=hk.2 e (zQM hx);have hk1:=hk.1;dsimp only at hk1;simp only [List.length_nil,Nat.zero_add] at hB;dsimp only;rw [if_pos (by omega),aX hx,qFC hC hj (by omega) (by omega),aA,aC (by simp;omega),aC (bG hx' (by omega))]
 rw [if_pos rfl,if_pos rfl,zJ,aA,Expr.eta]
def qQP (s:Int):Expr:=vE (2 * s+1)
def qJM (t:Table) (x:Setting):Expr:=if x.pos=1 then gT (vE ((inN t:Int)+pF t x.el)) else vE ((inN t:Int)+pF t x.el)
def zFK (t:Table) (x:Setting):Expr:=orE [qJM t x,iE (wU t x.el)]
def jD (t:Table) (i:Nat) (r:Route) (n:Nat):List Expr:=(List.range n).flatMap λj=>if j=i then [] else match t.routes[j]? with|some q=>xX t i j r q|none=>[]
theorem vA (i:Nat) (r:Route):∀ n,(jD t i r n).length≤n
 | 0=>by simp [jD]
 | n+1=>by
  unfold jD;rw [List.range_succ,List.flatMap_append,zQL];have h:=vA i r n;unfold jD at h
  have h2:(List.flatMap (λj=>if j=i then [] else match t.routes[j]? with|some q=>xX t i j r q|none=>[]) [n]).length≤1:=by
   simp only [List.flatMap_cons,List.flatMap_nil,List.append_nil];split
   ·simp
   split
   ·exact qFG _ _ _ _
   simp
  omega
theorem qKJ (i:Nat) (r:Route) (n:Nat):jD t i r (n+1)=jD t i r n++(if n=i then [] else match t.routes[n]? with|some q=>xX t i n r q|none=>[]):=by
 unfold jD;rw [List.range_succ,List.flatMap_append];simp
def qKH (t:Table) (i:Nat) (r:Route):Expr:=iL ((([asE t i 2,gT (auE t i 3)]++(r.sections++r.overSections).map qQP)++jD t i r t.routes.length)++(iB (eA r)).map (zFK t))
theorem zAG (hC:COk t) {k:Int} (h0:0≤k) (h1:k≤100):eC (qGJ t) k=some ((inN t:Int)+k):=by
 have hlm:=hC.lim;have h2:=(qEJ t).1;have h3:=hC.base t.routes.length;have h4:jM t=dB t t.routes.length:=rfl;unfold eC;dsimp only;rw [aC (by unfold I64;omega)]
theorem zAH (hC:COk t) (ht:t.Wf) {r:Route} (hr:t.routes[i]?=some r):fS (bld t b) (i:Int)=some (qKH t i r):=by
 have hi:=(zQQ.1 hr).1;have hm:=zQM hr;have hlm:=hC.lim;have hsum:=hC.sum r hm;unfold rD at hsum;have hal:=pL (eA r);have hal2:(eA r).length≤200:=by simp only [eA,zQL];omega
 unfold fS;dsimp only;rw [aX hr,qFD hC hi (by omega) (by omega),aA,nQ hC hi (by omega) (by omega),aA,nP,aA,zJ,aA,vV _ ⟨by simp,by simp;omega⟩,aA];have hfl:[r.sections,r.overSections].flatten=r.sections++r.overSections:=by simp
 have hcl:(r.sections++r.overSections).length≤200:=by rw [zQL];omega
 rw [hfl,iU (r.sections++r.overSections) (λ_ s=>qQP s) _ (by omega) (λx s B hx hB=>?_) (by dsimp only;rw [if_neg (by omega)];rfl),aA,jB]
 ·have hP : ([vE (qCG t i + 2), gT (vE (xW t i + 3))] ++ (r.sections ++ r.overSections).map qQP).length ≤ 300 := by rw [zQL, zQC]; simp only [List.length_cons, List.length_nil]; omega
  unfold qKH;generalize ([vE (qCG t i+2),gT (vE (xW t i+3))]++(r.sections++r.overSections).map qQP)=P at hP;rw [jW t.routes.length (λn=>P++jD t i r n) (o:=P++jD t i r t.routes.length) (by simp [jD]) (by omega) (λn hn=>?_) (by dsimp only;rw [if_neg (by omega)];rfl),aA]
  ·have hP2 : (P ++ jD t i r t.routes.length).length ≤ 400 := by have := vA (t := t) i r t.routes.length; rw [zQL]; omega
   generalize (P++jD t i r t.routes.length)=P2 at hP2;rw [hC.sok ht hm,aA,iU (iB (eA r)) (λ_ s=>zFK t s) _ (by omega) (λx s B hx hB=>?_) (by dsimp only;rw [if_neg (by omega)];rfl),aA,qBQ,aA,jB];have hx':=(zQQ.1 hx).1;have hxm:=zQM hx;obtain⟨k,hk1,hk2,hk3,hk4,hk5⟩:=hC.home hm hxm;have hid:fU (cW t.points s.el)=pF t s.el:=rfl;dsimp only;rw [if_pos (by omega),aX hx,lB t _ (by unfold Cnt;omega),aA,hid,zAG hC (by omega) (by omega),aA,nP,aA]
   have e1:(if s.pos=(1:Int) then aB (cP (vE ((inN t:Int)+pF t s.el))) λr56=>some (r56.op,r56.var,r56.args) else some ((vE ((inN t:Int)+pF t s.el)).op,(vE ((inN t:Int)+pF t s.el)).var,(vE ((inN t:Int)+pF t s.el)).args))=some ((qJM t s).op,(qJM t s).var,(qJM t s).args):=by
    unfold qJM;by_cases h:s.pos=1
    ·rw [if_pos h,if_pos h,zJ,aA]
    rw [if_neg h,if_neg h]
   rw [e1,aA];dsimp only;rw [hk1,aX hk3,pK hk4 (by omega),aA,qCF,aA,aC (by simp;omega),aC (bG hx' (by omega)),Expr.eta];rfl
  have hlen : (P ++ jD t i r n).length ≤ 400 := by have := vA (t := t) i r n; rw [zQL]; omega
  dsimp only;rw [qKJ,← List.append_assoc];generalize (P++jD t i r n)=B at hlen;rw [if_pos (by omega)];by_cases hni:n=i
  ·rw [if_pos (by omega),if_pos hni,aC (bG hn (by omega)),List.append_nil]
  have hq:=zQR hn;have hal3:=qFG (t:=t) i n r t.routes[n];rw [if_neg (by omega),if_neg hni,zEZ hC ht hr hq,aA,hq];dsimp only;rw [aC (by rw [zQL];omega),aC (bG hn (by omega))]
 have hx':=(zQQ.1 hx).1;have hs:=hC.sec_in hm (zQM hx);simp only [List.length_cons,List.length_nil] at hB;dsimp only;rw [if_pos (by omega),aX hx,zGG hs.1 (by omega) (by omega) (by omega),aA,nP,aA,aC (by simp;omega),aC (bG hx' (by omega))];rfl
def pU (t:Table) (el:Int) (rev:Bool) (r:Route) (i:Nat) (l:List Setting):List Expr:=(l.filter λx=>decide (x.el=el)&&(rev == decide (x.pos=2))).map λ_=>auE t i 4
theorem zP (el:Int) (rev:Bool) (r:Route) (i:Nat) (l:List Setting):(pU t el rev r i l).length≤l.length:=by
 unfold pU;rw [zQC];exact List.length_filter_le _ _
theorem qDC (el:Int) (rev:Bool) (r:Route) (i:Nat) {l:List Setting} {k:Nat} {x:Setting} (h:l[k]?=some x):pU t el rev r i (l.take (k+1))=pU t el rev r i (l.take k)++if x.el=el∧(rev=decide (x.pos=2)) then [auE t i 4] else []:=by
 unfold pU;rw [List.take_add_one,h,List.filter_append,List.map_append]
 congr 1
 by_cases hx:x.el=el∧(rev=decide (x.pos=2))
 ·rw [if_pos hx];simp only [Option.toList_some];rw [List.filter_cons_of_pos (by simp [hx.1,hx.2]),List.filter_nil];rfl
 rw [if_neg hx];simp only [Option.toList_some];rw [List.filter_cons_of_neg (by simpa using hx),List.filter_nil];rfl
def jQ (t:Table) (el:Int) (rev:Bool) (n:Nat):List Expr:=(List.range n).flatMap λi=>match t.routes[i]? with|some r=>pU t el rev r i (iB (eA r))|none=>[]
theorem tK (el:Int) (rev:Bool) {n:Nat} {r:Route} (hr:t.routes[n]?=some r):jQ t el rev (n+1)=jQ t el rev n++pU t el rev r n (iB (eA r)):=by
 unfold jQ;rw [List.range_succ,List.flatMap_append];simp [hr]
theorem wY (hC:COk t) (el:Int) (rev:Bool):∀ n,(jQ t el rev n).length≤200 * n
 | 0=>by simp [jQ]
 | n+1=>by
  have h:=wY hC el rev n
  cases hr:t.routes[n]? with
  | none=>
   have:jQ t el rev (n+1)=jQ t el rev n:=by
    unfold jQ;rw [List.range_succ,List.flatMap_append];simp [hr]
   rw [this];omega
  | some r=>
   have h1:=zP (t:=t) el rev r n (iB (eA r));have h2:=pL (eA r);have hsum:=hC.sum r (zQM hr);unfold rD at hsum;have hal2:(eA r).length≤200:=by simp only [eA,zQL];omega
   rw [tK el rev hr,zQL];omega
def zFW (t:Table) (p:Nat) (el:Int):Expr:=orE [orE (jQ t el true t.routes.length),iL [vE ((inN t:Int)+(p:Int)),gT (orE (jQ t el false t.routes.length))]]
theorem b_lies (hC:COk t) (ht:t.Wf) {p:Nat} {el:Int} (hp:t.points[p]?=some el):gL (bld t b) (p:Int)=some (zFW t p el):=by
 have hpl:=(zQQ.1 hp).1;have hlm:=hC.lim;unfold gL;dsimp only;rw [jW t.routes.length (λn=>(jQ t el false n,jQ t el true n)) (o:=(jQ t el false t.routes.length,jQ t el true t.routes.length)) (by simp [jQ]) (by omega) (λn hn=>?_) (by dsimp only;rw [if_neg (by omega)];rfl),aA]
 ·dsimp only;rw [qCF,aA,zAG hC (by omega) (by omega),aA,nP,aA,qCF,aA,zJ,aA,qBQ,aA,qCF,aA];rfl
 have hr:=zQR hn;have hm:=List.getElem_mem hn;have hsum:=hC.sum _ hm;unfold rD at hsum;have hal:=pL (eA t.routes[n]);have hal2:(eA t.routes[n]).length≤200:=by simp only [eA,zQL];omega
 have hw1:=wY hC el false n;have hw2:=wY hC el true n;dsimp only;rw [if_pos (by omega),aX hr,hC.sok ht hm,aA,tK el false hr,tK el true hr];generalize jQ t el false n=A at hw1;generalize jQ t el true n=B at hw2;rw [jW (iB (eA t.routes[n])).length (λk=>(A++pU t el false t.routes[n] n ((iB (eA t.routes[n])).take k),B++pU t el true t.routes[n] n ((iB (eA t.routes[n])).take k))) (o:=(A++pU t el false t.routes[n] n (iB (eA t.routes[n])),B++pU t el true t.routes[n] n (iB (eA t.routes[n])))) (by simp [pU]) (by omega) (λk hk=>?_) (by dsimp only;rw [if_neg (by omega),List.take_length];rfl),aA]
 ·dsimp only;rw [aC (bG hn (by omega))]
 have hx:=zQR hk;have hs:=hC.set_in hm (zQM hx);have hv1:=zP (t:=t) el false t.routes[n] n ((iB (eA t.routes[n])).take k);have hv2:=zP (t:=t) el true t.routes[n] n ((iB (eA t.routes[n])).take k);rw [List.length_take] at hv1 hv2;dsimp only;rw [if_pos (by omega),aX hx,aX hp,qDC el false _ _ hx,qDC el true _ _ hx];generalize pU t el false t.routes[n] n ((iB (eA t.routes[n])).take k)=A' at hv1;generalize pU t el true t.routes[n] n ((iB (eA t.routes[n])).take k)=B' at hv2;generalize (iB (eA t.routes[n]))[k]=x at hs;by_cases h1:x.el=el
 ·rw [if_pos h1];by_cases h2:x.pos=2
  ·rw [if_pos h2,nQ hC hn (by omega) (by omega),aA,nP,aA,aC (by simp;omega),aC (bG hk (by omega)),if_neg (by simp [h2]),if_pos (by simp [h1,h2]),List.append_nil,List.append_assoc]
  rw [if_neg h2,nQ hC hn (by omega) (by omega),aA,nP,aA,aC (by simp;omega),aC (bG hk (by omega)),if_pos (by simp [h1,h2]),if_neg (by simp [h2]),List.append_nil,List.append_assoc]
 rw [if_neg h1,aC (bG hk (by omega)),if_neg (by simp [h1]),if_neg (by simp [h1]),List.append_nil,List.append_nil]
variable {t:Table} {b:List Rung} {i:Nat}
theorem dN {β:Type} {f:Nat→List β} {c:Nat} (h:∀ i,(f i).length≤c) (n:Nat):((List.range n).flatMap f).length≤c * n:=by
 induction n with
 | zero=>simp
 | succ n ih=>
  rw [List.range_succ,List.flatMap_append,zQL];have:=h n;simp only [List.flatMap_cons,List.flatMap_nil,List.append_nil,Nat.mul_add,Nat.mul_one];omega
theorem kC {β:Type} (f:Nat→List β) (n:Nat):(List.range (n+1)).flatMap f=(List.range n).flatMap f++f n:=by
 rw [List.range_succ,List.flatMap_append];simp
def rt {α:Type} (t:Table) (f:Nat→Route→List α) (i:Nat):List α:=match t.routes[i]? with|some r=>f i r|none=>[]
theorem yC {α:Type} {f:Nat→Route→List α} {r:Route} (hr:t.routes[i]?=some r):rt t f i=f i r:=by unfold rt;rw [hr]
def pt {α:Type} (t:Table) (f:Nat→Int→List α) (i:Nat):List α:=match t.points[i]? with|some r=>f i r|none=>[]
theorem pt_at {α:Type} {f:Nat→Int→List α} {r:Int} (hr:t.points[i]?=some r):pt t f i=f i r:=by unfold pt;rw [hr]
theorem COk.sec24 (hC:COk t) {r:Route} (hr:r∈t.routes):r.sections.length≤24:=by
 have h1:=((lF hC.chk).2.2.1 r hr).1;unfold jR at h1;simp only [zQA] at h1;have h2:=h1.1.1.2;have hlm:=hC.lim;unfold qBD at h2;rw [allB_iff] at h2
 have hn:(r.sections++r.overSections).Nodup:=by
  rw [mK];intro a c hac hcl;have h3:=h2 c hcl;rw [sF (zQR hcl)] at h3;simp only [zQA,Bool.not_eq_true',decide_eq_false_iff_not] at h3;rw [zQR hcl,zQR (show a < _ by omega)];intro he;have he2:=Option.some.inj he;exact h3.2 (by rw [← he2];exact List.mem_take_iff_getElem.2 ⟨a,by omega,rfl⟩)
 have hsub:(r.sections++r.overSections).map Int.toNat⊆List.range 24:=by
  intro x hx;obtain⟨s,hs,rfl⟩:=List.mem_map.1 hx;have:=hC.sec_in hr hs;rw [List.mem_range];omega
 have hn2:((r.sections++r.overSections).map Int.toNat).Nodup:=by
  rw [mK];intro a c hac hcl;rw [zQC] at hcl;rw [zQP,zQP,zQR hcl,zQR (show a < _ by omega)];simp only [Option.map_some];intro he;have he2:=Option.some.inj he;have ha:=hC.sec_in hr (List.getElem_mem (show a < _ by omega));have hb:=hC.sec_in hr (List.getElem_mem hcl);have h4:(r.sections++r.overSections)[a]'(by omega)=(r.sections++r.overSections)[c]:=by omega
  rw [mK] at hn;exact hn a c hac hcl (by rw [zQR hcl,zQR (show a < _ by omega),h4])
 have h5:=List.Nodup.length_le_of_subset hn2 hsub;simp only [zQC,zQL,List.length_range] at h5;omega
theorem COk.last24 (hC:COk t) (i:Nat):bD t i≤23:=by
 unfold bD
 cases hr:t.routes[i]? with
 | none=>simp
 | some r=>have:=hC.sec24 (zQM hr);simp only;omega
def qET:ByteArray:=⟨#[46]⟩
def nmB (w:ByteArray) (i:Nat):ByteArray:=(w++qET)++mA i
theorem vS:∀ i,i < 100→(mA i).size≤2:=by decide+kernel
theorem qJO (hi:i < 100):iI (i:Int)=some (mA i):=by
 unfold iI;rw [aC (by omega),show ((i:Int)).toNat=i by omega]
theorem nD (hi:i < 100) (ws:List ByteArray) (hw:∀ w∈ws,w.size≤1000) (hl:ws.length≤10) {B:List ByteArray} (hB:B.length≤100000):bN (i:Int) ws B=some (B++ws.map (nmB · i)):=by
 unfold bN;rw [iU ws (λ_ w=>nmB w i) B (by omega) (λx w B' hx hB'=>?_) (by dsimp only;rw [if_neg (by omega)];rfl),jB];have hx':=(zQQ.1 hx).1;have h1:=hw w (zQM hx);have h2:=vS i hi;have h3:(⟨#[46]⟩:ByteArray).size=1:=rfl;dsimp only;rw [if_pos (by omega),aX hx,aC (by omega),qJO hi,aA,aC (by rw [ByteArray.size_append];omega),aC (by simp;omega),aC (bG hx' (by omega))];rfl
def qKM:ByteArray:=⟨#[102,114,101,101]⟩
def zFL:ByteArray:=⟨#[111,112,101,110]⟩
def vF:ByteArray:=⟨#[110,111,114,109,97,108]⟩
def rB:ByteArray:=⟨#[114,101,118,101,114,115,101]⟩
def qDD:ByteArray:=⟨#[117,110,99,108,97,105,109,101,100]⟩
def qQC:ByteArray:=⟨#[112,97,115,115,101,100]⟩
def zFO:ByteArray:=⟨#[99,97,108,108]⟩
def qQD:ByteArray:=⟨#[99,97,110,99,101,108]⟩
def qKL:ByteArray:=⟨#[108,105,101]⟩
def qBS:ByteArray:=⟨#[115,101,116]⟩
def lI:ByteArray:=⟨#[99,108,101,97,114]⟩
def sX:ByteArray:=⟨#[117,115,101,100]⟩
def sY:ByteArray:=⟨#[104,101,108,100]⟩
def wRelD:ByteArray:=⟨#[114,101,108,46]⟩
def qQA:ByteArray:=⟨#[119,97,105,116]⟩
def qID:ByteArray:=⟨#[115,116,97,110,100]⟩
def zFM:ByteArray:=⟨#[107,101,101,112]⟩
def wUse:ByteArray:=⟨#[117,115,101]⟩
def zFN:ByteArray:=⟨#[104,111,108,100]⟩
def wAct:ByteArray:=⟨#[97,99,116]⟩
def qQE:ByteArray:=⟨#[99,97,108,108,101,100]⟩
def nm1 (i:Nat):List ByteArray:=[qKM,zFL].map (nmB · i)
def nm2 (i:Nat):List ByteArray:=[vF,rB].map (nmB · i)
def nm3 (i:Nat):List ByteArray:=[qDD,qQC,zFO,qQD].map (nmB · i)
def nm4 (i:Nat):List ByteArray:=[qKL].map (nmB · i)
def yD (i n:Nat):List ByteArray:=(List.range n).flatMap λk=>[wRelD++mA i].map (nmB · k)
def nm5 (t:Table) (i:Nat):List ByteArray:=([qBS,lI,sX,sY].map (nmB · i)++yD i (bD t i))++[qQA,qID].map (nmB · i)
def nm6 (i:Nat):List ByteArray:=[zFM,wUse,zFN,wAct,qQE].map (nmB · i)
def jA (t:Table):List ByteArray:=(((((List.range t.sections.toNat).flatMap nm1++(List.range t.points.length).flatMap nm2)++(List.range t.routes.length).flatMap nm3)++(List.range t.points.length).flatMap nm4)++(List.range t.routes.length).flatMap (nm5 t))++(List.range t.routes.length).flatMap nm6
theorem zBV (t:Table) (i:Nat):(nm5 t i).length=6+bD t i:=by
 unfold nm5 yD;rw [zQL,zQL,fC (c:=1) (λ_=>rfl)];simp;omega
theorem uI (hC:COk t):∀ n,n≤t.routes.length→inN t+t.points.length+((List.range n).flatMap (nm5 t)).length=dB t n
 | 0,_=>by rw [xV];simp
 | n+1,h=>by
  have hr:=zQR (show n < t.routes.length by omega);have h1:=uI hC n (by omega);have hsec:=hC.secs (List.getElem_mem (show n < t.routes.length by omega));have hln:bD t n=t.routes[n].sections.length - 1:=by unfold bD;rw [hr]
  have hw:qIB t.routes[n]=5+t.routes[n].sections.length:=rfl;rw [kC,zQL,mO hr,zBV];omega
theorem qOY (hC:COk t):(jA t).length=jE t:=by
 have h1:=fC (f:=nm1) (c:=2) (λ_=>rfl) t.sections.toNat;have h2:=fC (f:=nm2) (c:=2) (λ_=>rfl) t.points.length;have h3:=fC (f:=nm3) (c:=4) (λ_=>rfl) t.routes.length;have h4:=fC (f:=nm4) (c:=1) (λ_=>rfl) t.points.length;have h5:=uI hC t.routes.length (zQW _);have h6:=fC (f:=nm6) (c:=5) (λ_=>rfl) t.routes.length;unfold jA;simp only [zQL,h1,h2,h3,h4,h6];have ha:jE t=jM t+5 * t.routes.length:=rfl;have he:jM t=dB t t.routes.length:=rfl;unfold inN at *;omega
theorem sz4 {ws:List ByteArray} (h:ws.all (λw=>decide (w.size≤1000))=true):∀ w∈ws,w.size≤1000:=by
 intro w hw;rw [zQT] at h;exact of_decide_eq_true (h w hw)
theorem qVG (hC:COk t):fJ (qGJ t)=some (jA t):=by
 have hlm:=hC.lim;have hs:t.sections=((t.sections.toNat:Nat):Int):=by omega
 have h1:=fC (f:=nm1) (c:=2) (λ_=>rfl);have h2:=fC (f:=nm2) (c:=2) (λ_=>rfl);have h3:=fC (f:=nm3) (c:=4) (λ_=>rfl);have h4:=fC (f:=nm4) (c:=1) (λ_=>rfl);have h6:=fC (f:=nm6) (c:=5) (λ_=>rfl);unfold fJ;dsimp only;rw [eF nm1 [] t.sections.toNat (by omega) (λi hi=>?_) (by dsimp only;rw [if_neg (by omega)];rfl),aA,List.nil_append]
 ·rw [eF nm2 _ t.points.length (by omega) (fun i hi => ?_) (by dsimp only; rw [if_neg (by omega)]; rfl), aA]
  ·rw [eF nm3 _ t.routes.length (by omega) (fun i hi => ?_) (by dsimp only; rw [if_neg (by omega)]; rfl), aA]
   ·rw [eF nm4 _ t.points.length (by omega) (fun i hi => ?_) (by dsimp only; rw [if_neg (by omega)]; rfl), aA]
    ·have hpl:((((List.range t.sections.toNat).flatMap nm1++(List.range t.points.length).flatMap nm2)++(List.range t.routes.length).flatMap nm3)++(List.range t.points.length).flatMap nm4).length=inN t+t.points.length:=by
      simp only [zQL,h1,h2,h3,h4];unfold inN;omega
     unfold jA;generalize ((((List.range t.sections.toNat).flatMap nm1++(List.range t.points.length).flatMap nm2)++(List.range t.routes.length).flatMap nm3)++(List.range t.points.length).flatMap nm4)=P at hpl;rw [eF (nm5 t) _ t.routes.length (by omega) (λi hi=>?_) (by dsimp only;rw [if_neg (by omega)];rfl),aA]
     ·have hP2:(P++(List.range t.routes.length).flatMap (nm5 t)).length≤30000:=by
       have:=uI hC t.routes.length (zQW _);have:=hC.base t.routes.length;rw [zQL];omega
      generalize P++(List.range t.routes.length).flatMap (nm5 t)=P2 at hP2;rw [eF nm6 _ t.routes.length (by omega) (λi hi=>?_) (by dsimp only;rw [if_neg (by omega)];rfl),aA];dsimp only;rw [if_pos (by omega),nD (by omega) _ (sz4 (by decide)) (by simp) (by rw [zQL,h6];omega),aA,aC (bG hi (by omega))];rfl
     have hlen:(P++(List.range i).flatMap (nm5 t)).length≤30000:=by
      have:=uI hC i (by omega);have:=hC.base i;rw [zQL];omega
     generalize P++(List.range i).flatMap (nm5 t)=B at hlen;have hl:=nN hC hi;have hl2:=hC.last24 i;dsimp only;rw [if_pos (by omega),nD (by omega) _ (sz4 (by decide)) (by simp) (by omega),aA,hl.1,aA];have hB2:(B++[qBS,lI,sX,sY].map (nmB · i)).length≤30004:=by simp;omega
     rw [show B++nm5 t i=(B++[qBS,lI,sX,sY].map (nmB · i))++yD i (bD t i)++[qQA,qID].map (nmB · i) by unfold nm5;simp only [List.append_assoc]];rw [show ([(⟨#[115,101,116]⟩:ByteArray),(⟨#[99,108,101,97,114]⟩:ByteArray),(⟨#[117,115,101,100]⟩:ByteArray),(⟨#[104,101,108,100]⟩:ByteArray)]:List ByteArray)=[qBS,lI,sX,sY] from rfl];generalize B++[qBS,lI,sX,sY].map (nmB · i)=B2 at hB2;rw [eF (λk=>[wRelD++mA i].map (nmB · k)) B2 (bD t i) (by omega) (λk hk=>?_) (by dsimp only;rw [if_neg (by omega)];rfl),aA]
     ·have hB3:(B2++yD i (bD t i)).length≤30100:=by
       unfold yD;rw [zQL,fC (c:=1) (λ_=>rfl)];omega
      unfold yD at hB3 ⊢;generalize (B2++(List.range (bD t i)).flatMap λk=>[wRelD++mA i].map (nmB · k))=B3 at hB3;rw [nD (by omega) _ (sz4 (by decide)) (by simp) (by omega),aA,aA,aC (bG hi (by omega))];rfl
     have hsz := vS i (by omega)
     have hlen3:(B2++(List.range k).flatMap λk=>[wRelD++mA i].map (nmB · k)).length≤30100:=by
      rw [zQL,fC (c:=1) (λ_=>rfl)];omega
     dsimp only;rw [if_pos (by omega),qJO (by omega),aA];rw [show (⟨#[114,101,108,46]⟩:ByteArray)=wRelD from rfl];have hrs:wRelD.size=4:=rfl;rw [aC (by omega),nD (by omega) _ (by intro w hw;simp only [List.mem_singleton] at hw;subst hw;rw [ByteArray.size_append];omega) (by simp) (by omega),aA,aC (bG hk (by omega))]
    dsimp only;rw [if_pos (by omega),nD (by omega) _ (sz4 (by decide)) (by simp) (by simp only [zQL,h1,h2,h3,h4];omega),aA,aC (bG hi (by omega))];rfl
   dsimp only;rw [if_pos (by omega),nD (by omega) _ (sz4 (by decide)) (by simp) (by simp only [zQL,h1,h2,h3];omega),aA,aC (bG hi (by omega))];rfl
  dsimp only;rw [if_pos (by omega),nD (by omega) _ (sz4 (by decide)) (by simp) (by simp only [zQL,h1,h2];omega),aA,aC (bG hi (by omega))];rfl
 dsimp only;rw [if_pos (by omega),List.nil_append,nD (by omega) _ (sz4 (by decide)) (by simp) (by simp only [h1];omega),aA,aC (bG hi (by omega))];rfl
def qCV (t:Table) (i:Nat) (r:Route):List Rung:=[⟨1,xW t i+4,0,qKH t i r⟩]
def qMG (t:Table) (p:Nat) (el:Int):List Rung:=[⟨1,(inN t:Int)+(p:Int),0,zFW t p el⟩]
def zBC (t:Table) (i:Nat):List Rung:=[⟨1,(dB t i:Int)+0,0,orE [auE t i 0,auE t i 4]⟩]
def qDM (t:Table):List Rung:=(List.range t.routes.length).flatMap (rt t (yA t))
def qGZ (t:Table):List Rung:=(List.range t.routes.length).flatMap (rt t (qLU t))
def qKY (t:Table):List Rung:=(List.range t.routes.length).flatMap (rt t (zQ t))
def qQK (t:Table):List Rung:=(List.range t.routes.length).flatMap (rt t (qCV t))
def qUJ (t:Table):List Rung:=(List.range t.points.length).flatMap (pt t (qMG t))
def rung6 (t:Table):List Rung:=(List.range t.routes.length).flatMap (zBC t)
def rungsT (t:Table):List Rung:=((((qDM t++qGZ t)++qKY t)++qQK t)++qUJ t)++rung6 t
abbrev prgT (t:Table):Program:=⟨jA t,(inN t:Int),rungsT t⟩
theorem qLB {α:Type} {f:Nat→Route→List α} {c:Nat} (h:∀ (i:Nat) (r:Route),t.routes[i]?=some r→(f i r).length≤c) (i:Nat):(rt t f i).length≤c:=by
 unfold rt
 cases hr:t.routes[i]? with
 | none=>simp
 | some r=>exact h i r hr
theorem qDH (r:Route):(zQ t i r).length=bD t i+3:=by unfold zQ;rw [zQL,zW];rfl
theorem vN (f:Nat→Route→List Rung) {F:Int×List Rung→Option ((Int×List Rung) ⊕ List Rung)} (pre:List Rung) (hn:t.routes.length≤1000) {c:Nat} (hc:c≤1000) (hp:pre.length≤10000) (hf:∀ (i:Nat) (r:Route),t.routes[i]?=some r→(f i r).length≤c) (hnn:t.routes.length≤48)
  (hF:∀ (i:Nat) (r:Route) (B:List Rung),t.routes[i]?=some r→B.length≤90000→F ((i:Int),B)=some (.inl ((i:Int)+1,B++f i r)))
  (he:∀ B,F ((t.routes.length:Int),B)=some (.inr B)):aQ F (0,pre)=some (pre++(List.range t.routes.length).flatMap (rt t f)):=by
 refine eF (rt t f) pre t.routes.length (by omega) (λi hi=>?_) (he _);have hr:=zQR hi
 have h1:((List.range i).flatMap (rt t f)).length≤48000:=by
  refine Nat.le_trans (dN (qLB hf) i) ?_;have:c * i≤1000 * 48:=Nat.mul_le_mul hc (by omega);omega
 rw [hF i _ _ hr (by rw [zQL];omega),yC hr]
theorem qPS (h:TOk t) (ht:t.Wf) (hs:zS t=true):gS t=some (if gM t=0 then if 2000 < jE t then (⟨[],0,[]⟩,2) else (prgT t,0) else (⟨[],0,[]⟩,gM t)):=by
 unfold gS;rw [qSK h hs,aA];by_cases hz:gM t=0
 ·obtain⟨hT,h1,h2,h3⟩:=zR hs;have hC:COk t:=⟨h,h1,h2,h3,hz⟩;rw [if_pos hz,if_pos hz];by_cases ha:2000 < jE t
  ·rw [if_pos ha,if_pos ha];rfl
  rw [if_neg ha,if_neg ha];have hlm:=hC.lim;dsimp only;rw [if_pos rfl];have l1:(qDM t).length≤2 * t.routes.length:=dN (qLB λ_ _ _=>by simp [yA]) _;have l2:(qGZ t).length≤4 * t.routes.length:=dN (qLB λ_ _ _=>by simp [qLU]) _;have l3:(qKY t).length≤30 * t.routes.length:=dN (qLB λi _ _=>by rw [qDH];have:=hC.last24 i;omega) _;have l4:(qQK t).length≤1 * t.routes.length:=dN (qLB λ_ _ _=>by simp [qCV]) _;have l5:(qUJ t).length≤1 * t.points.length:=dN (λi=>by unfold pt;split<;>simp [qMG]) _;rw [vN (t:=t) (yA t) [] (c:=2) (by omega) (by omega) (by simp) (λ_ _ _=>by simp [yA]) (by omega) (λi r B hr hB=>?_) (λB=>by dsimp only;rw [if_neg (by omega)];rfl),aA,List.nil_append]
  ·rw [vN (t := t) (qLU t) _ (c := 4) (by omega) (by omega) (by unfold qDM at l1; omega) (fun _ _ _ => by simp [qLU]) (by omega) (fun i r B hr hB => ?_) (fun B => by dsimp only; rw [if_neg (by omega)]; rfl), aA]
   ·rw [vN (t := t) (zQ t) _ (c := 30) (by omega) (by omega) (by rw [zQL]; unfold qDM at l1; unfold qGZ at l2; omega) (fun i _ _ => by rw [qDH]; have := hC.last24 i; omega) (by omega) (fun i r B hr hB => ?_) (fun B => by dsimp only; rw [if_neg (by omega)]; rfl), aA]
    ·rw [vN (t := t) (qCV t) _ (c := 1) (by omega) (by omega) (by simp only [zQL]; unfold qDM at l1; unfold qGZ at l2; unfold qKY at l3; omega) (fun _ _ _ => by simp [qCV]) (by omega) (fun i r B hr hB => ?_) (fun B => by dsimp only; rw [if_neg (by omega)]; rfl), aA]
     ·rw [eF (pt t (qMG t)) _ t.points.length (by omega) (fun p hp => ?_) (by dsimp only; rw [if_neg (by omega)]; rfl), aA]
      ·rw [eF (zBC t) _ t.routes.length (by omega) (fun i hi => ?_) (by dsimp only; rw [if_neg (by omega)]; rfl), aA, qVG hC, aA]
       ·rfl
       have l6 : ((List.range i).flatMap (zBC t)).length ≤ 1 * i := dN (fun _ => by simp [zBC]) _;have hai:=hC.base t.routes.length;dsimp only
       rw [if_pos (by omega), uX hC hi (by omega) (by omega), aA, nQ hC hi (by omega) (by omega), aA, nP, aA, nQ hC hi (by omega) (by omega), aA, nP, aA, qCF, aA, uT (by
        simp only [zQL]; unfold qDM at l1; unfold qGZ at l2; unfold qKY at l3; unfold qQK at l4; unfold qUJ at l5; omega), aA, aC (bG hi (by omega))]
       rfl
      have l6 : ((List.range p).flatMap (pt t (qMG t))).length ≤ 1 * p := dN (fun i => by unfold pt; split <;> simp [qMG]) _;have hq:=zQR hp;dsimp only
      rw [if_pos (by omega), zAG hC (by omega) (by omega), aA, b_lies hC ht hq, aA, uT (by
        simp only [zQL]; unfold qDM at l1; unfold qGZ at l2; unfold qKY at l3; unfold qQK at l4; omega), aA, aC (bG hp (by omega)), pt_at hq]
      rfl
     have hi:=(zQQ.1 hr).1;dsimp only;rw [if_pos (by omega),nQ hC hi (by omega) (by omega),aA,zAH hC ht hr,aA,uT (by omega),aA,aC (bG hi (by omega))];rfl
    have hi:=(zQQ.1 hr).1;dsimp only;rw [if_pos (by omega),zEY hC ht hr (by omega),aA,aC (bG hi (by omega))]
   have hi:=(zQQ.1 hr).1;dsimp only;rw [if_pos (by omega),qPQ hC ht hr (by omega),aA,aC (bG hi (by omega))]
  have hi:=(zQQ.1 hr).1;dsimp only;rw [if_pos (by omega),zAF hC hr (by omega),aA,aC (bG hi (by omega))]
 rw [if_neg hz,if_neg hz];dsimp only;rw [if_neg hz]
structure POk (p:Go.Proofs.YtldaknhjmhlefaaGreatDoor.Program):Prop where
 rungs:p.rungs.length≤1000000000
 names:p.names.length≤9000000000000000000
 exprs:∀ r∈p.rungs,okE r.expr
def inV (n:Nat) (I V:List Bool):List Bool:=(List.range n).map (λi=>I.getD i false)++V.drop n
variable {t:Table} {b:List Rung} {i:Nat}
section nice
variable {n:Int} {d d' s s':Nat} {e:Expr} {l m:List Expr}
end nice
section vars
variable (hC:COk t) (hi:i < t.routes.length)
include hC hi
end vars
section exprs
variable (hC:COk t) {r:Route} (hr:t.routes[i]?=some r)
include hC hr
end exprs
variable {t:Table} {b:List Rung} {i:Nat}
variable {t:Table} {b:List Rung} {i:Nat}
theorem qSP {β ρ:Type} (n:Nat) (f:Nat→β) (pre:List β) {F:Int×List β→Option ((Int×List β) ⊕ ρ)} {o:ρ} (hn:n≤9223372036854775807) (hF:∀ (i:Nat) (B:List β),i < n→B.length=pre.length+i→F ((i:Int),B)=some (.inl ((i:Int)+1,B++[f i])))
  (he:F ((n:Int),pre++(List.range n).map f)=some (.inr o)):aQ F (0,pre)=some o:=by
 refine jW n (λi=>pre++(List.range i).map f) (by simp) hn (λi hi=>?_) he;rw [hF i _ hi (by simp),qMB,List.append_assoc]
variable {t:Table} {b:List Rung} {i:Nat}
def qIE:ByteArray:=⟨#[114,101,108]⟩
variable {t:Table} {b:List Rung} {i:Nat}
mutual
theorem zAX:∀ e:Expr,szE e≤e.encR.bulk
 | ⟨a,b,c⟩=>by
  have:=qKP c;simp only [szE,Expr.encR,D.bulk,D.bulks];omega
theorem qKP:∀ l:List Expr,szL l≤D.bulks (Expr.encsR l)
 | []=>by simp [szL]
 | e :: r=>by
  have:=zAX e;have:=qKP r;simp only [szL,Expr.encsR,D.bulks];omega
end
mutual
theorem zGC:∀ e:Expr,dpE e≤szE e
 | ⟨a,b,c⟩=>by
  have:=qVX c;simp only [szE,dpE];omega
theorem qVX:∀ l:List Expr,dpL l≤szL l
 | []=>by simp [szL,dpL]
 | e :: r=>by
  have:=zGC e;have:=qVX r;simp only [szL,dpL];omega
end
theorem qTV (e:Expr):1≤szE e:=by rw [qTW];omega
theorem qVL:∀ l:List Expr,l.length≤szL l
 | []=>by simp [szL]
 | e :: r=>by have:=qTV e;have:=qVL r;simp only [szL,List.length_cons];omega
theorem qVJ:∀ {l:List Expr} {x:Expr},x∈l→szE x≤szL l
 | e :: r,x,h=>by
  rcases zQB.1 h with rfl|h
  ·simp only [szL];omega
  have:=qVJ h;simp only [szL];omega
theorem zFG:lE=some true:=by decide+kernel
theorem qMS {e:Obligation} (m:Machine) (ho:okE e.expr) (hs:szE e.expr≤1000000000):jH e m=some (!(evE m.vars e.expr)):=by
 unfold jH;rw [zFH m.vars (by have:=zGC e.expr;unfold eU;omega) ho,aA]
def qPF (l:List Obligation) (m:Machine):Int:=if (l.findIdx λe=>!(evE m.vars e.expr)) < l.length then (l.findIdx λe=>!(evE m.vars e.expr):Nat) else -1
theorem qSX {l : List Obligation} (m : Machine) (hl : l.length ≤ qJI) (g : Obligation → Option Bool) (hg : ∀ e ∈ l, g e = some (!(evE m.vars e.expr))) : aQ (ρ := Unit ⊕ Int) (fun x3 =>
   if x3 < (l.length : Int) then
    aT l x3 fun e6 =>
    aB (g e6) fun r7 =>
    if r7 = true then
     aI (
      aI (
       some x3))
    else
     aD (I64 (x3 + (1 : Int))) <|
     some (.inl (x3 + (1 : Int)))
   else
    aI (
     some (.inl ()))) (0 : Int) = some (if (l.findIdx fun e => !(evE m.vars e.expr)) < l.length then .inr (l.findIdx fun e => !(evE m.vars e.expr) : Nat) else .inl ()) := by
 obtain ⟨o, h1, h2⟩ := zBY (f := fun (x3 : Int) =>
   if x3 < (l.length : Int) then
    aT l x3 fun e6 =>
    aB (g e6) fun r7 =>
    if r7 = true then
     aI (
      aI (
       some x3))
    else
     aD (I64 (x3 + (1 : Int))) <|
     some (.inl (x3 + (1 : Int)))
   else
    aI (
     some (.inl ()))) (s := (0 : Int))
  (λ(o:Unit ⊕ Int)=>o=if (l.findIdx λe=>!(evE m.vars e.expr)) < l.length then .inr (l.findIdx λe=>!(evE m.vars e.expr):Nat) else .inl ())
  (fun i s => s = (i : Int) ∧ i ≤ l.findIdx fun e => !(evE m.vars e.expr)) l.length hl ⟨rfl, Nat.zero_le _⟩ (fun i hi s hI => by
   obtain ⟨rfl, h2⟩ := hI;rw [if_pos (by omega), aX (zQR hi), hg _ (List.getElem_mem hi), aA]
   cases hb : !(evE m.vars l[i].expr) with
   | true =>
    right
    have hf : (l.findIdx fun e => !(evE m.vars e.expr)) = i := by
     refine Nat.le_antisymm ?_ h2;by_cases h : (l.findIdx fun e => !(evE m.vars e.expr)) ≤ i
     ·exact h
     exact absurd hb (by simpa using List.not_of_lt_findIdx (Nat.lt_of_not_le h))
    refine ⟨_, rfl, ?_⟩;rw [hf, if_pos hi]
   | false =>
    left;rw [if_neg (by simp), aC (bG hi hl)];refine ⟨_, rfl, by push_cast; rfl, ?_⟩;rcases Nat.lt_or_ge i (l.findIdx fun e => !(evE m.vars e.expr)) with h | h
    ·omega
    have h3 : (l.findIdx fun e => !(evE m.vars e.expr)) = i := Nat.le_antisymm h h2;have h4 : (l.findIdx fun e => !(evE m.vars e.expr)) < l.length := by omega
    have h5 := List.findIdx_getElem (w := h4);simp only [h3] at h5;rw [hb] at h5
    cases h5) (fun s hI => by
   obtain ⟨rfl, h2⟩ := hI;rw [if_neg (by omega)];refine ⟨_, rfl, ?_⟩
   rw [if_neg (by omega)])
 rw [h1,h2]
theorem zAL {l:List Obligation} (m:Machine) (hl:l.length≤qJI) (h:∀ e∈l,okE e.expr∧szE e.expr≤1000000000):iZ l m=some (qPF l m):=by
 unfold iZ fK qPF;rw [qSX m hl _ λe he=>qMS m (h e he).1 (h e he).2];split<;>rfl
def keyWords:List (List UInt8):=[qKM,zFL,vF,rB,qDD,qQC,zFO,qQD,qKL,qBS,lI,sX,sY,qIE,qQA,qID,zFM,wUse,zFN,wAct,qQE].map (·.data.toList)
def zCD (s:Nat×List UInt8×Nat×Nat) (c:UInt8):Nat×List UInt8×Nat×Nat:=
 if c=46 then (s.1+1,s.2) else if s.1=0 then (s.1,s.2.1++[c],s.2.2) else if s.1=1 then (s.1,s.2.1,s.2.2.1 * 10+(c.toNat - 48),s.2.2.2) else (s.1,s.2.1,s.2.2.1,s.2.2.2 * 10+(c.toNat - 48))
def uM (b:ByteArray):Nat:=(b.data.toList.foldl zCD (0,[],0,0)) |> λs=>keyWords.findIdx (· == s.2.1) * 10000+s.2.2.1 * 100+s.2.2.2
theorem key1:∀ i,i < 48→(nm1 i).map uM=[i * 100,10000+i * 100]:=by decide+kernel
theorem key2:∀ i,i < 48→(nm2 i).map uM=[20000+i * 100,30000+i * 100]:=by decide+kernel
theorem key3:∀ i,i < 48→(nm3 i).map uM=[40000+i * 100,50000+i * 100,60000+i * 100,70000+i * 100]:=by decide+kernel
theorem key4:∀ i,i < 48→(nm4 i).map uM=[80000+i * 100]:=by decide+kernel
theorem key5:∀ i,i < 48→([qBS,lI,sX,sY].map (nmB · i)).map uM=[90000+i * 100,100000+i * 100,110000+i * 100,120000+i * 100]:=by decide+kernel
theorem keyR:∀ i,i < 48→∀ k,k < 24→uM (nmB (wRelD++mA i) k)=130000+i * 100+k:=by decide+kernel
theorem key7:∀ i,i < 48→([qQA,qID].map (nmB · i)).map uM=[140000+i * 100,150000+i * 100]:=by decide+kernel
theorem key6:∀ i,i < 48→(nm6 i).map uM=[160000+i * 100,170000+i * 100,180000+i * 100,190000+i * 100,200000+i * 100]:=by decide+kernel
theorem pE {α β:Type} (f:Nat→List α) (g:α→β) (h:Nat→List β) (n:Nat) (hh:∀ i,i < n→(f i).map g=h i):((List.range n).flatMap f).map g=(List.range n).flatMap h:=by
 rw [List.map_flatMap]
 induction n with
 | zero=>rfl
 | succ n ih=>rw [List.range_succ,List.flatMap_append,List.flatMap_append,ih λi hi=>hh i (by omega)];simp [hh n (by omega)]
theorem yY {α β:Type} (f:α→β) (l:List α):l.flatMap (λx=>[f x])=l.map f:=by
 induction l with
 | nil=>rfl
 | cons x r ih=>rw [List.flatMap_cons,ih];rfl
theorem fP {β:Type} {h:Nat→List β} {n:Nat} {x:β} (hx:x∈(List.range n).flatMap h):∃ i,i < n∧x∈h i:=by
 obtain⟨i,hi,hm⟩:=List.mem_flatMap.1 hx;exact⟨i,List.mem_range.1 hi,hm⟩
theorem mL {h:Nat→List Nat} {n:Nat} (h1:∀ i,i < n→(h i).Nodup) (h2:∀ a b,a < b→b < n→∀ x∈h a,∀ y∈h b,x≠y):((List.range n).flatMap h).Nodup:=by
 induction n with
 | zero=>simp
 | succ n ih=>
  rw [kC,List.nodup_append];refine⟨ih (λi hi=>h1 i (by omega)) λa b hab hb=>h2 a b hab (by omega),h1 n (by omega),λx hx y hy=>?_⟩;obtain⟨i,hi,hm⟩:=fP hx;exact h2 i n hi (by omega) x hm y hy
theorem qJF {α β:Type} {f:α→β} {l:List α} (h:(l.map f).Nodup):l.Nodup:=by
 unfold List.Nodup at *;rw [List.pairwise_map] at h;exact h.imp λhab he=>hab (by rw [he])
def kb1 (i:Nat):List Nat:=[i * 100,10000+i * 100]
def kb2 (i:Nat):List Nat:=[20000+i * 100,30000+i * 100]
def kb3 (i:Nat):List Nat:=[40000+i * 100,50000+i * 100,60000+i * 100,70000+i * 100]
def kb4 (i:Nat):List Nat:=[80000+i * 100]
def kb5 (t:Table) (i:Nat):List Nat:=([90000+i * 100,100000+i * 100,110000+i * 100,120000+i * 100]++(List.range (bD t i)).map (130000+i * 100+·))++[140000+i * 100,150000+i * 100]
def kb6 (i:Nat):List Nat:=[160000+i * 100,170000+i * 100,180000+i * 100,190000+i * 100,200000+i * 100]
theorem in1 {i x:Nat} (h:x∈kb1 i):x=i * 100∨x=10000+i * 100:=by simpa [kb1] using h
theorem in2 {i x:Nat} (h:x∈kb2 i):x=20000+i * 100∨x=30000+i * 100:=by simpa [kb2] using h
theorem in3 {i x:Nat} (h:x∈kb3 i):x=40000+i * 100∨x=50000+i * 100∨x=60000+i * 100∨x=70000+i * 100:=by simpa [kb3] using h
theorem in4 {i x:Nat} (h:x∈kb4 i):x=80000+i * 100:=by simpa [kb4] using h
theorem in5 {t:Table} {i x:Nat} (hl:bD t i≤23) (h:x∈kb5 t i):x=90000+i * 100∨x=100000+i * 100∨x=110000+i * 100∨x=120000+i * 100∨(∃ k,k < 24∧x=130000+i * 100+k)∨x=140000+i * 100∨x=150000+i * 100:=by
 unfold kb5 at h;simp only [zQN,zQB,List.not_mem_nil,or_false,List.mem_map,List.mem_range] at h;rcases h with ((h|h|h|h)|⟨k,hk,rfl⟩)|h|h
 ·exact .inl h
 ·exact .inr (.inl h)
 ·exact .inr (.inr (.inl h))
 ·exact .inr (.inr (.inr (.inl h)))
 ·exact .inr (.inr (.inr (.inr (.inl ⟨k,by omega,rfl⟩))))
 ·exact .inr (.inr (.inr (.inr (.inr (.inl h)))))
 exact .inr (.inr (.inr (.inr (.inr (.inr h)))))
theorem in6 {i x:Nat} (h:x∈kb6 i):x=160000+i * 100∨x=170000+i * 100∨x=180000+i * 100∨x=190000+i * 100∨x=200000+i * 100:=by simpa [kb6] using h
theorem qSU (t:Table) {i:Nat} (hl:bD t i≤23):(kb5 t i).Nodup:=by
 unfold kb5;rw [List.nodup_append,List.nodup_append];refine⟨⟨by simp,?_,λx hx y hy=>?_⟩,by simp,λx hx y hy=>?_⟩
 ·unfold List.Nodup;rw [List.pairwise_map];exact List.pairwise_lt_range.imp λh=>by omega
 ·obtain⟨k,hk,rfl⟩:=List.mem_map.1 hy;rw [List.mem_range] at hk;simp only [zQB,List.not_mem_nil,or_false] at hx;omega
 simp only [zQN,zQB,List.not_mem_nil,or_false,List.mem_map,List.mem_range] at hx hy;rcases hx with hx|⟨k,hk,rfl⟩<;>omega
variable {t:Table}
theorem sO (hC:COk t):(jA t).Nodup:=by
 have hlm:=hC.lim;have hl:=hC.last24;apply qJF (f:=uM);unfold jA;simp only [List.map_append];rw [pE nm1 uM kb1 _ λi hi=>key1 i (by omega),pE nm2 uM kb2 _ λi hi=>key2 i (by omega),pE nm3 uM kb3 _ λi hi=>key3 i (by omega),pE nm4 uM kb4 _ λi hi=>key4 i (by omega),pE (nm5 t) uM (kb5 t) _ ?_,pE nm6 uM kb6 _ λi hi=>key6 i (by omega)]
 ·have n1 : ((List.range t.sections.toNat).flatMap kb1).Nodup := mL (fun i hi => by simp [kb1]) fun a b hab hb x hx y hy => by have := in1 hx; have := in1 hy; omega
  have n2:((List.range t.points.length).flatMap kb2).Nodup:=mL (λi hi=>by simp [kb2]) λa b hab hb x hx y hy=>by have:=in2 hx;have:=in2 hy;omega
  have n3:((List.range t.routes.length).flatMap kb3).Nodup:=mL (λi hi=>by simp [kb3]) λa b hab hb x hx y hy=>by have:=in3 hx;have:=in3 hy;omega
  have n4:((List.range t.points.length).flatMap kb4).Nodup:=mL (λi hi=>by simp [kb4]) λa b hab hb x hx y hy=>by have:=in4 hx;have:=in4 hy;omega
  have n5:((List.range t.routes.length).flatMap (kb5 t)).Nodup:=mL (λi hi=>qSU t (hl i)) λa b hab hb x hx y hy=>by
   have h1:=in5 (hl a) hx;have h2:=in5 (hl b) hy;rcases h1 with h1|h1|h1|h1|⟨k,hk,h1⟩|h1|h1<;>rcases h2 with h2|h2|h2|h2|⟨k2,hk2,h2⟩|h2|h2<;>omega
  have n6:((List.range t.routes.length).flatMap kb6).Nodup:=mL (λi hi=>by simp [kb6]) λa b hab hb x hx y hy=>by have:=in6 hx;have:=in6 hy;omega
  have b1:∀ x∈(List.range t.sections.toNat).flatMap kb1,x < 20000:=λx hx=>by obtain⟨i,hi,hm⟩:=fP hx;have:=in1 hm;omega
  have b2:∀ x∈(List.range t.points.length).flatMap kb2,20000≤x∧x < 40000:=λx hx=>by obtain⟨i,hi,hm⟩:=fP hx;have:=in2 hm;omega
  have b3:∀ x∈(List.range t.routes.length).flatMap kb3,40000≤x∧x < 80000:=λx hx=>by obtain⟨i,hi,hm⟩:=fP hx;have:=in3 hm;omega
  have b4:∀ x∈(List.range t.points.length).flatMap kb4,80000≤x∧x < 90000:=λx hx=>by obtain⟨i,hi,hm⟩:=fP hx;have:=in4 hm;omega
  have b5:∀ x∈(List.range t.routes.length).flatMap (kb5 t),90000≤x∧x < 160000:=λx hx=>by
   obtain⟨i,hi,hm⟩:=fP hx;have h1:=in5 (hl i) hm;rcases h1 with h1|h1|h1|h1|⟨k,hk,h1⟩|h1|h1<;>omega
  have b6:∀ x∈(List.range t.routes.length).flatMap kb6,160000≤x:=λx hx=>by obtain⟨i,hi,hm⟩:=fP hx;have:=in6 hm;omega
  have c2:∀ x∈(List.range t.sections.toNat).flatMap kb1++(List.range t.points.length).flatMap kb2,x < 40000:=λx hx=>by
   rcases zQN.1 hx with h|h
   ·have:=b1 x h;omega
   have:=b2 x h;omega
  have m2:((List.range t.sections.toNat).flatMap kb1++(List.range t.points.length).flatMap kb2).Nodup:=List.nodup_append.2 ⟨n1,n2,λx hx y hy=>by have:=b1 x hx;have:=b2 y hy;omega⟩;generalize (List.range t.sections.toNat).flatMap kb1++(List.range t.points.length).flatMap kb2=L2 at c2 m2
  have c3:∀ x∈L2++(List.range t.routes.length).flatMap kb3,x < 80000:=λx hx=>by
   rcases zQN.1 hx with h|h
   ·have:=c2 x h;omega
   have:=b3 x h;omega
  have m3:(L2++(List.range t.routes.length).flatMap kb3).Nodup:=List.nodup_append.2 ⟨m2,n3,λx hx y hy=>by have:=c2 x hx;have:=b3 y hy;omega⟩;generalize L2++(List.range t.routes.length).flatMap kb3=L3 at c3 m3
  have c4:∀ x∈L3++(List.range t.points.length).flatMap kb4,x < 90000:=λx hx=>by
   rcases zQN.1 hx with h|h
   ·have:=c3 x h;omega
   have:=b4 x h;omega
  have m4:(L3++(List.range t.points.length).flatMap kb4).Nodup:=List.nodup_append.2 ⟨m3,n4,λx hx y hy=>by have:=c3 x hx;have:=b4 y hy;omega⟩;generalize L3++(List.range t.points.length).flatMap kb4=L4 at c4 m4
  have c5:∀ x∈L4++(List.range t.routes.length).flatMap (kb5 t),x < 160000:=λx hx=>by
   rcases zQN.1 hx with h|h
   ·have:=c4 x h;omega
   have:=b5 x h;omega
  have m5:(L4++(List.range t.routes.length).flatMap (kb5 t)).Nodup:=List.nodup_append.2 ⟨m4,n5,λx hx y hy=>by have:=c4 x hx;have:=b5 y hy;omega⟩;generalize L4++(List.range t.routes.length).flatMap (kb5 t)=L5 at c5 m5;exact List.nodup_append.2 ⟨m5,n6,λx hx y hy=>by have:=c5 x hx;have:=b6 y hy;omega⟩
 intro i hi
 have h1:(yD i (bD t i)).map uM=(List.range (bD t i)).map (130000+i * 100+·):=by
  unfold yD
  rw [pE _ uM (fun k => [130000 + i * 100 + k]) _ (fun k hk => by
   have := hl i
   rw [List.map_cons, List.map_cons, List.map_nil, List.map_nil, keyR i (by omega) k (by omega)]), yY]
 unfold nm5 kb5;rw [List.map_append,List.map_append,key5 i (by omega),key7 i (by omega),h1]
def rM (L:List ByteArray):List (ByteArray×Int):=L.mapIdx λi x=>(x,(i:Int))
theorem qMC {L:List ByteArray} {j:Nat} {s:ByteArray} {v:Int} (h:(rM L)[j]?=some (s,v)):L[j]?=some s∧v=(j:Int):=by
 unfold rM at h;rw [List.getElem?_mapIdx] at h
 cases e:L[j]? with
 | none=>rw [e] at h;cases h
 | some x=>
  rw [e] at h;simp only [Option.map_some,Option.some.injEq,Prod.mk.injEq] at h;exact⟨by rw [h.1],h.2.symm⟩
theorem qHG (L:List ByteArray):(rM L).map (·.1)=L:=by
 unfold rM;apply List.ext_getElem?;intro i;rw [zQP,List.getElem?_mapIdx];cases L[i]?<;>rfl
theorem qSM (L:List ByteArray) (x:ByteArray):rM (L++[x])=rM L++[(x,(L.length:Int))]:=by
 unfold rM;rw [List.mapIdx_append];simp
theorem zBX {L:List ByteArray} (hn:L.Nodup) {j:Nat} {s:ByteArray} (h:L[j]?=some s):gC (rM L) s=some (j:Int):=by
 have hm:(rM L)[j]?=some (s,(j:Int)):=by unfold rM;rw [List.getElem?_mapIdx,h];rfl
 cases e:gC (rM L) s with
 | none=>exact absurd rfl (uZ e _ (zQM hm))
 | some b=>
  obtain⟨k,hk⟩:=uY e;obtain⟨h1,h2⟩:=qMC hk;rw [h2]
  congr 2
  rw [mK] at hn;have hj:=(zQQ.1 h).1;have hkl:=(zQQ.1 h1).1;rcases Nat.lt_trichotomy k j with hlt|heq|hgt
  ·exact absurd (by rw [h,h1]) (hn k j hlt hj)
  ·exact heq
  exact absurd (by rw [h,h1]) (hn j k hgt hkl)
theorem qSN {L:List ByteArray} {s:ByteArray} (h:s∉L):gC (rM L) s=none:=by
 cases e:gC (rM L) s with
 | none=>rfl
 | some b=>
  obtain⟨k,hk⟩:=uY e;exact absurd (zQM (qMC hk).1) h
theorem qSL {L : List ByteArray} (hn : L.Nodup) (hl : L.length ≤ 1000000) : aQ (ρ := List (ByteArray × Int)) (fun (x10, b11) =>
    if x10 < (L.length : Int) then
     aT L x10 fun e14 =>
     aD (b11.map (·.1)).Nodup <|
     aD (I64 (x10 + (1 : Int))) <|
     some (.inl ((x10 + (1 : Int)), (qJA b11 e14 x10)))
    else
     aI (
      some b11)) ((0 : Int), ([] : List (ByteArray × Int))) = some (rM L) := by
 rw [jW L.length (λk=>rM (L.take k)) (o:=rM L) (by simp [rM]) (by omega) (λk hk=>?_) (by dsimp only;rw [if_neg (by omega),List.take_length];rfl)];have hx:=zQR hk;have hnt:(L.take k).Nodup:=hn.sublist (List.take_sublist k L)
 have hni:L[k]∉L.take k:=λhm=>by
  obtain⟨j,hj,he⟩:=List.mem_take_iff_getElem.1 hm;rw [mK] at hn;exact hn j k (by omega) hk (by rw [hx,zQR (by omega),he])
 dsimp only;rw [if_pos (by omega),aX hx,aC (by rw [qHG];exact hnt),aC (by unfold I64;omega),qLS (qSN hni),List.take_add_one,hx];show some (Sum.inl ((k:Int)+1,rM (L.take k)++[(L[k],(k:Int))]))=some (Sum.inl ((k:Int)+1,rM (L.take k++[L[k]])));rw [qSM,List.length_take,Nat.min_eq_left (by omega)]
variable {t:Table} {b:List Obligation} {i:Nat}
theorem qCS {β:Type} {f:Nat→List β} {n i j:Nat} {x:β} (hi:i < n) (h:(f i)[j]?=some x):((List.range n).flatMap f)[((List.range i).flatMap f).length+j]?=some x:=by
 induction n with
 | zero=>omega
 | succ n ih=>
  rw [kC];by_cases hin:i < n
  ·have h1:=ih hin;rw [List.getElem?_append_left (zQQ.1 h1).1,h1]
  have : i = n := by omega
  subst this;rw [List.getElem?_append_right (by omega),Nat.add_sub_cancel_left,h]
theorem pM {β:Type} {a c:List β} {j:Nat} {x:β} (h:a[j]?=some x):(a++c)[j]?=some x:=by
 rw [List.getElem?_append_left (zQQ.1 h).1,h]
theorem qRQ {β:Type} {a c:List β} {j k:Nat} {x:β} (hk:k=a.length+j) (h:c[j]?=some x):(a++c)[k]?=some x:=by
 rw [List.getElem?_append_right (by omega),hk,Nat.add_sub_cancel_left,h]
theorem p_free {s:Nat} (hs:s < t.sections.toNat):(jA t)[2 * s]?=some (nmB qKM s):=by
 unfold jA;have h1:=fC (f:=nm1) (c:=2) (λ_=>rfl) s;have:=qCS (f:=nm1) (j:=0) (x:=nmB qKM s) hs rfl;rw [h1] at this;exact pM (pM (pM (pM (pM (by simpa using this)))))
theorem p_pnt {p j:Nat} {w:ByteArray} (hp:p < t.points.length) (hw:([vF,rB])[j]?=some w):(jA t)[2 * t.sections.toNat+2 * p+j]?=some (nmB w p):=by
 unfold jA;have h1:=fC (f:=nm1) (c:=2) (λ_=>rfl) t.sections.toNat;have h2:=fC (f:=nm2) (c:=2) (λ_=>rfl) p;have:=qCS (f:=nm2) (j:=j) (x:=nmB w p) hp (by unfold nm2;rw [zQP,hw];rfl);rw [h2] at this;exact pM (pM (pM (pM (qRQ (j:=2 * p+j) (by rw [h1];omega) this))))
theorem len3 (t:Table):((((List.range t.sections.toNat).flatMap nm1++(List.range t.points.length).flatMap nm2)++(List.range t.routes.length).flatMap nm3)).length=inN t:=by
 have h1:=fC (f:=nm1) (c:=2) (λ_=>rfl) t.sections.toNat;have h2:=fC (f:=nm2) (c:=2) (λ_=>rfl) t.points.length;have h3:=fC (f:=nm3) (c:=4) (λ_=>rfl) t.routes.length;simp only [zQL,h1,h2,h3];unfold inN;omega
theorem len4 (t:Table):((((List.range t.sections.toNat).flatMap nm1++(List.range t.points.length).flatMap nm2)++(List.range t.routes.length).flatMap nm3)++(List.range t.points.length).flatMap nm4).length=inN t+t.points.length:=by
 have h4:=fC (f:=nm4) (c:=1) (λ_=>rfl) t.points.length;rw [zQL,len3,h4];omega
theorem p_lie {p:Nat} (hp:p < t.points.length):(jA t)[inN t+p]?=some (nmB qKL p):=by
 unfold jA;have h4:=fC (f:=nm4) (c:=1) (λ_=>rfl) p;have:=qCS (f:=nm4) (j:=0) (x:=nmB qKL p) hp rfl;rw [h4] at this;exact pM (pM (qRQ (j:=1 * p+0) (by rw [len3];omega) this))
theorem zFU (hC:COk t) (hi:i < t.routes.length) {j:Nat} {x:ByteArray} (h:(nm5 t i)[j]?=some x):(jA t)[dB t i+j]?=some x:=by
 unfold jA;have h5:=uI hC i (by omega);have:=qCS hi h;exact pM (qRQ (j:=((List.range i).flatMap (nm5 t)).length+j) (by rw [len4];omega) this)
theorem zBO (hC:COk t) (hi:i < t.routes.length) {k:Nat} {w:ByteArray} (hw:([qBS,lI,sX,sY])[k]?=some w):(jA t)[dB t i+k]?=some (nmB w i):=
 zFU hC hi (by unfold nm5;exact pM (pM (by rw [zQP,hw];rfl)))
theorem p_rel (hC:COk t) (hi:i < t.routes.length) {k:Nat} (hk:k < bD t i):(jA t)[dB t i+(4+k)]?=some (nmB (wRelD++mA i) k):=
 zFU hC hi (by
  have h1 : yD i (bD t i) = (List.range (bD t i)).map fun k => nmB (wRelD ++ mA i) k := yY _ _;unfold nm5;rw [h1]
  exact pM (qRQ (j := k) (by simp) (by rw [zQP, List.getElem?_range hk]; rfl)))
def mW (w sep:ByteArray) (xs:List Int):ByteArray:=xs.foldl (λb x=>b++(sep++mA x.toNat)) w
def spB:ByteArray:=⟨#[32]⟩
abbrev Low (xs:List Int):Prop:=∀ x∈xs,0≤x∧x < 100
theorem qGU (w sep:ByteArray) (xs:List Int) (x:Int):mW w sep (xs++[x])=mW w sep xs++(sep++mA x.toNat):=by
 unfold mW;rw [List.foldl_append];rfl
theorem qGV {w sep:ByteArray} (hw:w.size≤100) (hs:sep.size≤10):∀ (k:Nat) {xs:List Int},xs.length=k→Low xs→(mW w sep xs).size≤100+20 * k
 | 0,xs,hk,h=>by
  have:=List.length_eq_zero_iff.1 hk;subst this;exact Nat.le_trans hw (by omega)
 | k+1,xs,hk,h=>by
  have hne:xs≠[]:=λhe=>by subst he;simp at hk
  have hx:=List.dropLast_concat_getLast hne;rw [← hx] at h ⊢;have hl:=h (xs.getLast hne) (by simp);have h1:=qGV hw hs k (xs:=xs.dropLast) (by simp;omega) (λx hm=>h x (by simp [hm]));have h2:=vS (xs.getLast hne).toNat (by omega);rw [qGU,ByteArray.size_append,ByteArray.size_append];omega
theorem qNZ {w sep : ByteArray} {xs : List Int} (hw : w.size ≤ 100) (hs : sep.size ≤ 10) (hl : xs.length ≤ 100) (hx : Low xs) (F : Int → Option ByteArray) (hF : ∀ i : Nat, i < 100 → F (i : Int) = some (mA i)) : aQ (ρ := ByteArray) (fun (word5, x6) =>
   if x6 < (xs.length : Int) then
    aT xs x6 fun e9 =>
    aB (F e9) fun r10 =>
    aD (sep.size + r10.size ≤ 9223372036854775807) <|
    aD (word5.size + (sep ++ r10).size ≤ 9223372036854775807) <|
    aD (I64 (x6 + (1 : Int))) <|
    some (.inl ((word5 ++ (sep ++ r10)), (x6 + (1 : Int))))
   else
    aI (
     some word5)) (w, (0 : Int)) = some (mW w sep xs) := by
 rw [kR (s:=(w,(0:Int))) (λi=>(mW w sep (xs.take i),(i:Int))) xs.length (o:=mW w sep xs) rfl (by omega) ?_ ?_]
 ·intro i hi;have hg:=zQR hi;have hm:=hx _ (List.getElem_mem hi);generalize xs[i]=x at hg hm;have hF:=hF x.toNat (by omega);rw [show ((x.toNat:Nat):Int)=x by omega] at hF;have h1:=qGV hw hs i (xs:=xs.take i) (by simp;omega) (λy hy=>hx y (List.mem_of_mem_take hy));have h2:=vS x.toNat (by omega);dsimp only;rw [if_pos (by omega),aX hg,hF,aA,aC (by omega),aC (by rw [ByteArray.size_append];omega),aC (by unfold I64;omega),List.take_add_one,hg];show _=some (Sum.inl (mW w sep (xs.take i++[x]),((i+1:Nat):Int)));rw [qGU];rfl
 dsimp only;rw [if_neg (by omega),List.take_length];rfl
theorem qKO {w sep:ByteArray} {xs:List Int} (hw:w.size≤100) (hs:sep.size≤10) (hl:xs.length≤100) (hx:Low xs):jZ w sep xs=some (mW w sep xs):=by
 unfold jZ;rw [qNZ hw hs hl hx iI (λi hi=>qJO hi),aA]
abbrev cl (t:Table) (b:List Obligation):Collector:=⟨t,rM (jA t),b⟩
theorem qDE (hC:COk t) {w:ByteArray} {xs:List Int} {pos:Nat} (hw:w.size≤100) (hl:xs.length≤100) (hx:Low xs) (hp:(jA t)[pos]?=some (mW w qET xs)):aY (cl t b) w xs=some (vE (pos:Int)):=by
 unfold aY;have h1:=qKO (w:=w) (sep:=qET) hw (by decide) hl hx;unfold qET at h1;rw [h1,aA,aC (by rw [qHG];exact sO hC)];have h2:=zBX (sO hC) hp;unfold qET at h2;rw [h2];rfl
theorem zAV (w:ByteArray) (i:Nat):mW w qET [(i:Int)]=nmB w i:=by
 unfold mW nmB;show w++(qET++mA i)=_;rw [ByteArray.append_assoc]
theorem tit2 (i k:Nat):mW qIE qET [(i:Int),(k:Int)]=nmB (wRelD++mA i) k:=by
 unfold mW nmB;show (qIE++(qET++mA i))++(qET++mA k)=_;rw [show wRelD=qIE++qET from rfl];simp only [ByteArray.append_assoc]
theorem qPA {x:Int} (h:0≤x∧x < 100):Low [x]:=λy hy=>by
 rw [List.mem_singleton] at hy;subst hy;exact h
theorem low2 {x y:Int} (h:0≤x∧x < 100) (h2:0≤y∧y < 100):Low [x,y]:=λz hz=>by
 simp only [zQB,List.not_mem_nil,or_false] at hz;rcases hz with rfl|rfl
 ·exact h
 exact h2
theorem low3 {x y z:Int} (h:0≤x∧x < 100) (h2:0≤y∧y < 100) (h3:0≤z∧z < 100):Low [x,y,z]:=λu hu=>by
 simp only [zQB,List.not_mem_nil,or_false] at hu;rcases hu with rfl|rfl|rfl
 ·exact h
 ·exact h2
 exact h3
theorem v_free (hC:COk t) {s:Int} (h0:0≤s) (h1:s < t.sections):aY (cl t b) ⟨#[102,114,101,101]⟩ [s]=some (iE s):=by
 have hlm:=hC.lim
 have h2 := qDE (b := b) hC (w := qKM) (xs := [s]) (pos := 2 * s.toNat) (by decide) (by simp) (qPA (by omega)) (by
  rw [show ([s] : List Int) = [((s.toNat : Nat) : Int)] by rw [show ((s.toNat : Nat) : Int) = s by omega], zAV]
  exact p_free (by omega))
 rw [show ((2 * s.toNat:Nat):Int)=2 * s by omega] at h2;exact h2
theorem zFP (hC:COk t) {p:Nat} {j:Nat} {w:ByteArray} (hp:p < t.points.length) (hw:([vF,rB])[j]?=some w) (hsz:w.size≤100):aY (cl t b) w [(p:Int)]=some (vE (2 * t.sections+2 * (p:Int)+(j:Int))):=by
 have hlm:=hC.lim;have h2:=qDE (b:=b) hC (w:=w) (xs:=[(p:Int)]) hsz (by simp) (qPA (by omega)) (by rw [zAV];exact p_pnt hp hw);rw [show ((2 * t.sections.toNat+2 * p+j:Nat):Int)=2 * t.sections+2 * (p:Int)+(j:Int) by omega] at h2;exact h2
theorem v_lie (hC:COk t) {p:Nat} (hp:p < t.points.length):aY (cl t b) ⟨#[108,105,101]⟩ [(p:Int)]=some (vE ((inN t:Int)+(p:Int))):=by
 have hlm:=hC.lim;have h2:=qDE (b:=b) hC (w:=qKL) (xs:=[(p:Int)]) (by decide) (by simp) (qPA (by omega)) (by rw [zAV];exact p_lie hp);rw [show ((inN t+p:Nat):Int)=(inN t:Int)+(p:Int) by omega] at h2;exact h2
theorem rY (hC:COk t) (hi:i < t.routes.length) {k:Nat} {w:ByteArray} (hw:([qBS,lI,sX,sY])[k]?=some w) (hsz:w.size≤100):aY (cl t b) w [(i:Int)]=some (stE t i (k:Int)):=by
 have hlm:=hC.lim;have h2:=qDE (b:=b) hC (w:=w) (xs:=[(i:Int)]) hsz (by simp) (qPA (by omega)) (by rw [zAV];exact zBO hC hi hw);rw [show ((dB t i+k:Nat):Int)=(dB t i:Int)+(k:Int) by omega] at h2;exact h2
theorem qTO (hC:COk t) (hi:i < t.routes.length) {k:Nat} (hk:k < bD t i):aY (cl t b) ⟨#[114,101,108]⟩ [(i:Int),(k:Int)]=some (mE t i (k:Int)):=by
 have hlm:=hC.lim;have h24:=hC.last24 i;have h2:=qDE (b:=b) hC (w:=qIE) (xs:=[(i:Int),(k:Int)]) (by decide) (by simp) (low2 (by omega) (by omega)) (by rw [tit2];exact p_rel hC hi hk);rw [show ((dB t i+(4+k):Nat):Int)=(dB t i:Int)+(4+(k:Int)) by omega] at h2;exact h2
def tD (t:Table) (i:Nat):Expr:=orE [stE t i 0,stE t i 1,stE t i 2,stE t i 3]
def kI (t:Table) (i k:Nat):Expr:=if k=bD t i then tD t i else iL [tD t i,gT (mE t i (k:Int))]
theorem rU (hC:COk t) (hi:i < t.routes.length):cL (cl t b) (i:Int)=some (tD t i):=by
 unfold cL;have h0:=rY (b:=b) hC hi (k:=0) (w:=qBS) rfl (by decide);have h1:=rY (b:=b) hC hi (k:=1) (w:=lI) rfl (by decide);have h2:=rY (b:=b) hC hi (k:=2) (w:=sX) rfl (by decide);have h3:=rY (b:=b) hC hi (k:=3) (w:=sY) rfl (by decide);unfold qBS at h0;unfold lI at h1;unfold sX at h2;unfold sY at h3;rw [h0,aA,h1,aA,h2,aA,h3,aA];rfl
theorem qCW (hC:COk t) {r:Route} (hr:t.routes[i]?=some r) {k:Nat} (hk:k < r.sections.length):cQ (cl t b) (i:Int) (k:Int)=some (kI t i k):=by
 have hi:=(zQQ.1 hr).1;have hs:=hC.secs (zQM hr);have hln:bD t i=r.sections.length - 1:=by unfold bD;rw [hr]
 unfold cQ kI;dsimp only;rw [aX hr,aC (by unfold I64;omega)];by_cases hl:k=bD t i
 ·rw [if_pos (by omega), if_pos hl, rU hC hi];rfl
 rw [if_neg (by omega), if_neg hl, rU hC hi, aA, qTO hC hi (by omega), aA];rfl
theorem qHQ {e:Expr} {w:ByteArray} {xs:List Int} (hw:w.size≤100) (hl:xs.length≤100) (hx:Low xs) (hb:b.length≤1000000):dE (cl t b) e w xs=some (cl t (b++[⟨mW w spB xs,e⟩])):=by
 unfold dE;have h1:=qKO (w:=w) (sep:=spB) hw (by decide) hl hx;unfold spB at h1 ⊢;rw [h1,aA,aC (by simp;omega)]
variable {t:Table} {b:List Obligation} {i:Nat}
theorem qED {β ρ:Type} (f:Nat→List β) (pre:List β) (s0 n:Nat) {F:Int×List β→Option ((Int×List β) ⊕ ρ)} {o:ρ} (hn:n≤9223372036854775807) (hF:∀ j,j < n→F (((s0+j:Nat):Int),pre++(List.range j).flatMap f)=some (.inl (((s0+j+1:Nat):Int),(pre++(List.range j).flatMap f)++f j)))
  (he:F (((s0+n:Nat):Int),pre++(List.range n).flatMap f)=some (.inr o)):aQ F ((s0:Int),pre)=some o:=by
 refine kR (λi=>(((s0+i:Nat):Int),pre++(List.range i).flatMap f)) n (by simp) hn (λi hi=>?_) he;rw [hF i hi,List.range_succ,List.flatMap_append,List.append_assoc];simp [Nat.add_assoc]
def qQB:ByteArray:=⟨#[112,97,116,104]⟩
def qTN:ByteArray:=⟨#[111,118,101,114]⟩
def rJ (t:Table) (a c:Nat) (q:Route) (s:Int) (x:Nat):List Obligation:=match cW q.sections s with
 | some k=>[⟨mW qQB spB [(a:Int),(c:Int),s],gT (iL [kI t a x,kI t c k])⟩]
 | none=>[]
def uF (t:Table) (a c:Nat):List Obligation:=rt t (λ_ r=>rt t (λ_ q=>(List.range r.sections.length).flatMap λx=>rJ t a c q (sE r x) x) c) a
def yO (t:Table) (a:Nat):List Obligation:=(List.range (t.routes.length - (a+1))).flatMap λj=>uF t a (a+1+j)
def qS (t:Table):List Obligation:=(List.range t.routes.length).flatMap (yO t)
def tB (t:Table) (a c:Nat) (q:Route) (s:Int):List Obligation:=match cW q.sections s with
 | some k=>[⟨mW qTN spB [(a:Int),(c:Int),s],gT (iL [tD t a,kI t c k])⟩]
 | none=>[]
def nO (t:Table) (a c:Nat):List Obligation:=rt t (λ_ r=>rt t (λ_ q=>if a=c∨rP r q=true then [] else (List.range r.overSections.length).flatMap λx=>tB t a c q (r.overSections.getD x 0)) c) a
def xM (t:Table):List Obligation:=(List.range t.routes.length).flatMap λa=>(List.range t.routes.length).flatMap (nO t a)
theorem qHD (a c:Nat) (q:Route) (s:Int) (x:Nat):(rJ t a c q s x).length≤1:=by unfold rJ;split<;>simp
theorem qHF (a c:Nat) (q:Route) (s:Int):(tB t a c q s).length≤1:=by unfold tB;split<;>simp
theorem zV {α:Type} {f:Nat→Route→List α} {c:Nat} (h:∀ (i:Nat) (r:Route),t.routes[i]?=some r→(f i r).length≤c) (i:Nat):(rt t f i).length≤c:=by
 unfold rt
 cases e:t.routes[i]? with
 | none=>simp
 | some r=>exact h i r e
theorem qHC (hC:COk t) (a c:Nat):(uF t a c).length≤24:=by
 unfold uF;refine zV (λi r hr=>zV (λj q hq=>?_) c) a;have h1:=hC.sec24 (zQM hr);have:=dN (f:=λx=>rJ t a c q (sE r x) x) (c:=1) (λx=>qHD _ _ _ _ _) r.sections.length;omega
theorem qUW (hC:COk t) {r:Route} (hr:r∈t.routes):r.overSections.length≤200:=by
 have:=hC.sum r hr;unfold rD at this;omega
theorem qHE (hC:COk t) (a c:Nat):(nO t a c).length≤200:=by
 unfold nO;refine zV (λi r hr=>zV (λj q hq=>?_) c) a;have h1:=qUW hC (zQM hr);split
 ·simp
 have := dN (f := fun x => tB t a c q (r.overSections.getD x 0)) (c := 1) (fun x => qHF _ _ _ _) r.overSections.length;omega
theorem qSG (hC:COk t) (a:Nat):(yO t a).length≤24 * 48:=by
 have hlm:=hC.lim;unfold yO;have:=dN (f:=λj=>uF t a (a+1+j)) (c:=24) (λj=>qHC hC _ _) (t.routes.length - (a+1));have h2:24 * (t.routes.length - (a+1))≤24 * 48:=Nat.mul_le_mul_left _ (by omega);omega
theorem qSH (hC:COk t) (a:Nat):((List.range t.routes.length).flatMap (nO t a)).length≤200 * 48:=by
 have hlm:=hC.lim;have:=dN (f:=nO t a) (c:=200) (λj=>qHE hC _ _) t.routes.length;omega
theorem xK (hC:COk t) (n:Nat) (hn:n≤48):((List.range n).flatMap (yO t)).length≤60000:=by
 have:=dN (f:=yO t) (c:=24 * 48) (λj=>qSG hC _) n;have h2:24 * 48 * n≤24 * 48 * 48:=Nat.mul_le_mul_left _ hn;omega
theorem xL (hC:COk t) (n:Nat) (hn:n≤48):((List.range n).flatMap λa=>(List.range t.routes.length).flatMap (nO t a)).length≤500000:=by
 have:=dN (f:=λa=>(List.range t.routes.length).flatMap (nO t a)) (c:=200 * 48) (λj=>qSH hC _) n;have h2:200 * 48 * n≤200 * 48 * 48:=Nat.mul_le_mul_left _ hn;omega
theorem zBP (hC:COk t) {r:Route} (hr:r∈t.routes) {k:Nat} (hk:k < r.overSections.length):r.overSections[k]?=some (r.overSections.getD k 0)∧0≤r.overSections.getD k 0∧r.overSections.getD k 0 < t.sections:=by
 have h1:r.overSections.getD k 0=r.overSections[k]:=by rw [zQD,zQR hk];rfl
 have h2:=hC.sec_in hr (s:=r.overSections[k]) (List.mem_append_right _ (List.getElem_mem hk));rw [h1];exact⟨zQR hk,h2⟩
theorem qKA (hC:COk t) {r:Route} (hr:r∈t.routes):Cnt r.sections:=by
 have:=hC.sec24 hr;unfold Cnt;omega
theorem zET (hC:COk t) (hb:b.length≤100000):eL (cl t b)=some (cl t (b++qS t)):=by
 have hlm:=hC.lim;unfold eL;dsimp only;rw [eF (yO t) b t.routes.length (by omega) (λa ha=>?_) (by dsimp only;rw [if_neg (by omega)];rfl)]
 ·rfl
 have hB := xK hC a (by omega);have hBl:(b++(List.range a).flatMap (yO t)).length≤160000:=by rw [zQL];omega
 generalize b++(List.range a).flatMap (yO t)=B at hBl;have hra:=zQR ha;have hrm:=List.getElem_mem ha;generalize hr:t.routes[a]=r at hra hrm;dsimp only;rw [if_pos (by omega),aC (by unfold I64;omega),show ((a:Int)+1)=((a+1:Nat):Int) by omega];rw [qED (λj=>uF t a (a+1+j)) B (a+1) (t.routes.length - (a+1)) (by omega) (λj hj=>?_) (by dsimp only;rw [if_neg (by omega)];rfl),aA]
 ·rw [aC (by unfold I64; omega)];rfl
 have hB2 := dN (f := fun j => uF t a (a + 1 + j)) (c := 24) (fun j => qHC hC _ _) j;have h24:24 * j≤24 * 48:=Nat.mul_le_mul_left _ (by omega);have hB3:(B++(List.range j).flatMap λj=>uF t a (a+1+j)).length≤170000:=by rw [zQL];omega
 generalize (B++(List.range j).flatMap λj=>uF t a (a+1+j))=B2 at hB3;obtain⟨c,hc⟩:∃ c,c=a+1+j:=⟨_,rfl⟩;have hcl:c < t.routes.length:=by omega
 rw [← hc];have hqc:=zQR hcl;have hqm:=List.getElem_mem hcl;generalize t.routes[c]=q at hqc hqm;dsimp only;have hs24:=hC.sec24 hrm;rw [if_pos (by omega),aX hra,eF (λx=>rJ t a c q (sE r x) x) B2 r.sections.length (by omega) (λx hx=>?_) (by dsimp only;rw [if_neg (by omega)];rfl),aA,aC (by unfold I64;omega)]
 ·have hp2:uF t a c=(List.range r.sections.length).flatMap λx=>rJ t a c q (sE r x) x:=by
   unfold uF;rw [yC hra,yC hqc]
  rw [hp2];rfl
 have hB4 := dN (f := fun x => rJ t a c q (sE r x) x) (c := 1) (fun x => qHD _ _ _ _ _) x;have hB5:(B2++(List.range x).flatMap λx=>rJ t a c q (sE r x) x).length≤180000:=by rw [zQL];omega
 generalize (B2++(List.range x).flatMap λx=>rJ t a c q (sE r x) x)=B6 at hB5;obtain⟨hsx,hs0,hs1⟩:=qJY hC hrm hx;generalize hsd:sE r x=s at hsx hs0 hs1;dsimp only;rw [if_pos (by omega),aX hsx,aX hqc,nF _ _ (qKA hC hqm),aA];unfold rJ
 cases hk:cW q.sections s with
 | none=>
  rw [if_neg (by simp [fU]),aC (by unfold I64;omega),List.append_nil]
 | some k=>
  obtain⟨_,_,_,hkl⟩:=oE hk;have h1:=qCW (b:=B6) hC hra hx;have h2:=qCW (b:=B6) hC hqc hkl;rw [if_pos (by simp [fU]),h1,aA];show aB (cQ (cl t B6) (c:Int) (k:Int)) _=_;have h3:=qHQ (t:=t) (b:=B6) (e:=gT (iL [kI t a x,kI t c k])) (w:=qQB) (xs:=[(a:Int),(c:Int),s]) (by decide) (by simp) (low3 (by omega) (by omega) (by omega)) (by omega);unfold qQB at h3;rw [h2,aA];show aB (some (iL [kI t a x,kI t c k])) _=_;rw [aA];show aB (some (gT (iL [kI t a x,kI t c k]))) _=_;rw [aA,h3,aA,aC (by unfold I64;omega)];rfl
theorem zEU (hC:COk t) (hb:b.length≤200000):dT (cl t b)=some (cl t (b++xM t)):=by
 have hlm:=hC.lim;unfold dT;dsimp only;rw [eF (λa=>(List.range t.routes.length).flatMap (nO t a)) b t.routes.length (by omega) (λa ha=>?_) (by dsimp only;rw [if_neg (by omega)];rfl)]
 ·rfl
 have hB := xL hC a (by omega);have hBl:(b++(List.range a).flatMap λa=>(List.range t.routes.length).flatMap (nO t a)).length≤700000:=by rw [zQL];omega
 generalize (b++(List.range a).flatMap λa=>(List.range t.routes.length).flatMap (nO t a))=B at hBl;have hra:=zQR ha;have hrm:=List.getElem_mem ha;generalize hr:t.routes[a]=r at hra hrm;have ho24:=qUW hC hrm;dsimp only;rw [if_pos (by omega),aX hra,eF (nO t a) B t.routes.length (by omega) (λc hcl=>?_) (by dsimp only;rw [if_neg (by omega)];rfl),aA,aC (by unfold I64;omega)];have hB2:=dN (f:=nO t a) (c:=200) (λj=>qHE hC _ _) c;have hB3:(B++(List.range c).flatMap (nO t a)).length≤710000:=by rw [zQL];omega
 generalize (B++(List.range c).flatMap (nO t a))=B2 at hB3;have hqc:=zQR hcl;have hqm:=List.getElem_mem hcl;generalize t.routes[c]=q at hqc hqm;dsimp only
 have hp2:nO t a c=if a=c∨rP r q=true then [] else (List.range r.overSections.length).flatMap λx=>tB t a c q (r.overSections.getD x 0):=by
  unfold nO;rw [yC hra,yC hqc]
 rw [hp2,if_pos (by omega),aX hqc]
 have hsk:(if ((a:Int))=(c:Int) then some true else aB (eO r q) λr24=>some r24)=some (decide (a=c∨rP r q=true)):=by
  by_cases hac:a=c
  ·rw [if_pos (by omega),decide_eq_true (.inl hac)]
  rw [if_neg (by omega), show eO r q = some (rP r q) from rfl, aA]
  congr 1
  rw [Bool.eq_iff_iff,decide_eq_true_eq];exact⟨.inr,λh=>h.resolve_left hac⟩
 rw [hsk,aA];by_cases hh:a=c∨rP r q=true
 ·rw [if_pos (decide_eq_true hh),if_pos hh,aA,aC (by unfold I64;omega),List.append_nil]
 rw [if_neg (by simpa using hh), if_neg hh, eF (fun x => tB t a c q (r.overSections.getD x 0)) B2 r.overSections.length (by omega) (fun x hx => ?_) (by dsimp only; rw [if_neg (by omega)]; rfl), aA, aC (by unfold I64; omega)];have hB4:=dN (f:=λx=>tB t a c q (r.overSections.getD x 0)) (c:=1) (λx=>qHF _ _ _ _) x;have hB5:(B2++(List.range x).flatMap λx=>tB t a c q (r.overSections.getD x 0)).length≤720000:=by rw [zQL];omega
 generalize (B2++(List.range x).flatMap λx=>tB t a c q (r.overSections.getD x 0))=B6 at hB5;obtain⟨hsx,hs0,hs1⟩:=zBP hC hrm hx;generalize hsd:r.overSections.getD x 0=s at hsx hs0 hs1;dsimp only;rw [if_pos (by omega),aX hsx,nF _ _ (qKA hC hqm),aA];unfold tB
 cases hk:cW q.sections s with
 | none=>
  rw [if_neg (by simp [fU]),aC (by unfold I64;omega),List.append_nil]
 | some k=>
  obtain⟨_,_,_,hkl⟩:=oE hk;have h1:=rU (b:=B6) hC ha;have h2:=qCW (b:=B6) hC hqc hkl;rw [if_pos (by simp [fU]),h1,aA];show aB (cQ (cl t B6) (c:Int) (k:Int)) _=_;have h3:=qHQ (t:=t) (b:=B6) (e:=gT (iL [tD t a,kI t c k])) (w:=qTN) (xs:=[(a:Int),(c:Int),s]) (by decide) (by simp) (low3 (by omega) (by omega) (by omega)) (by omega);unfold qTN at h3;rw [h2,aA];show aB (some (iL [tD t a,kI t c k])) _=_;rw [aA];show aB (some (gT (iL [tD t a,kI t c k]))) _=_;rw [aA,h3,aA,aC (by unfold I64;omega)];rfl
end Go.Proofs.YtldaknhjmhlefaaGreatDoor
